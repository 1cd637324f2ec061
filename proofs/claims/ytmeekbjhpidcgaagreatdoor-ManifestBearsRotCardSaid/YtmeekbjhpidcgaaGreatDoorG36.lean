/- Out of: Tb, Td, Row32, Tf, Tm, Tn, Tp, Tq, Tr, Ts, Tt, Tu, Tv, Tw, Tx, Ty, Tz, Uz, Tg. -/
import Derived.Test.YtmeekbjhpidcgaaGreatDoorG29
import Derived.Test.YtmeekbjhpidcgaaGreatDoorG34
import Derived.Test.YtmeekbjhpidcgaaGreatDoorG35
namespace Go.Proofs.YtmeekbjhpidcgaaGreatDoor
set_option linter.unusedSimpArgs false
set_option linter.unusedVariables false
set_option linter.unnecessarySimpa false
section
open Go.RowKit
def wideB (n:Int):Bool := !noteOK n
set_option maxRecDepth 10000 in
theorem pw_wide (n:Int):PCalls Tryz.prog 63 [pint n] (· = pbool (wideB n)):=by
 refine pcalls_of_pw typeTab_ok Tryz.func63 rfl (by kernel_rfl) (by simp [low_pint,low_pints,low_pstr,low_pbool,low_pbytes,low_pstrs]) (by simp [pint,pints,pstr,pbool,pstrs,pbytes,PV.ownB]) (by rw [Tryz.ntmps63];simp) ?_
 rw [Tryz.ntmps63,Tryz.results63]
 unfold wideB noteOK
 by_cases h1:n < -1099511627776
 ·refine wk ?_
  refine retP rfl (by exact lw) ?_
  simp [pbool];omega
 ·by_cases h2:1099511627776 < n
  ·refine wk ?_
   refine retP rfl (by exact lw) ?_
   simp [pbool];omega
  ·refine wk ?_
   refine retP rfl (by exact lw) ?_
   simp [pbool];omega
theorem ref_cell {l:List PRef} {k:Nat} {r:PRef} (h:l[k]? = some r):(((l.flatMap prefL).drop (k * 18)).take 18).map PV.bare=prefL r:=by
 rw [flatMap_row (f:=prefL) (k:=18) (fun _=>rfl) h];rfl
def upR (l:List PRef) (k:Nat):Prop:=∀j,j < k→refOK (l.getD j default)=true∧(0 < j→refLt (l.getD (j - 1) default) (l.getD j default)=true)
theorem rises_up:∀l:List PRef,risesM l=true↔upR l l.length
 | []=>⟨fun _ j hj=>by simp at hj,fun _=>rfl⟩
 | [r]=>by
  constructor
  ·intro h j hj
   obtain rfl:j=0:=by simp at hj;omega
   exact ⟨h,by omega⟩
  ·intro h;exact (h 0 (by simp)).1
 |r :: x :: l=>by
  have ih:=rises_up (x :: l)
  simp only [risesM,Bool.and_eq_true]
  constructor
  ·rintro ⟨h1,h2,h3⟩ j hj
   have h4:=ih.1 h3
   cases j with
   |zero=>exact ⟨h1,by omega⟩
   |succ j=>
    have h5:=h4 j (by simpa using hj)
    refine ⟨h5.1,fun _=>?_⟩
    cases j with
    |zero=>exact h2
    |succ j=>exact h5.2 (by omega)
  ·intro h
   refine ⟨(h 0 (by simp)).1,(h 1 (by simp)).2 (by omega),ih.2 fun j hj=>?_⟩
   have:=h (j+1) (by simpa using hj)
   refine ⟨this.1,fun h0=>?_⟩
   have h6:=this.2 (by omega)
   obtain ⟨i,rfl⟩:∃i,j=i+1:=⟨j - 1,by omega⟩
   exact h6
theorem up_bad {l:List PRef} {k:Nat} (hk:k < l.length) (h:¬(refOK (l.getD k default)=true∧(0 < k→refLt (l.getD (k - 1) default) (l.getD k default)=true))):risesM l=false:=by
 cases hr:risesM l with
 |false=>rfl
 |true=>exact absurd ((rises_up l).1 hr k hk) h
theorem getD_row {l:List PRef} {k:Nat} (h:k < l.length):l[k]? = some (l.getD k default):=by
 rw [List.getD_eq_getElem?_getD,List.getElem?_eq_getElem h];rfl
set_option maxRecDepth 10000 in
set_option maxHeartbeats 4000000 in
theorem pw_right (m:PMan) (h1:m.notes.length≤1000000000) (h2:m.refs.length≤1000000000):PCalls Tryz.prog 32 [pman m] (· = pbool (rightM m)):=by
 have hc:=pw_anyI 63 [] wideB m.notes rfl (by omega) (by simp) (fun k _=>pw_wide _)
 have hlm:=low_pmanL m
 have hln:Low (pints m.notes):=(low_pints _).2 trivial
 have hlr:Low (prefs m.refs):=(low_prefs _).2 trivial
 refine pcalls_of_pw typeTab_ok Tryz.func32 rfl (by kernel_rfl) (by simp [low_pint,low_pints,low_pstr,low_pbool,low_pbytes,low_pstrs,low_pman]) (by simp [pint,pints,pstr,pbool,pstrs,pbytes,PV.ownB,pman]) (by rw [Tryz.ntmps32];simp) ?_
 rw [Tryz.ntmps32,Tryz.results32]
 have fl:=rows_len m.refs
 refine wk ?_
 refine PW.loop (fun k:Nat=>(((((bot.setb 0 (pmanL m)).put 1 (.ptr 0 0)).put 7 (prefs m.refs)).put 8 (pint m.refs.length)).put 9 (pint k))) (fun k=>k≤m.refs.length∧upR m.refs k) (fun k=>m.refs.length - k) 0 ⟨by omega,fun j hj=>by omega⟩ ?_ ?_
 ·exact sb
 ·rintro k ⟨hk,hu⟩
  by_cases hlt:k < m.refs.length
  ·have hr:=getD_row hlt
   have hr':=ref_cell hr
   have bad:¬(refOK (m.refs.getD k default)=true∧(0 < k→refLt (m.refs.getD (k - 1) default) (m.refs.getD k default)=true))→rightM m=false:=fun h=>by
    unfold rightM
    rw [up_bad hlt h];simp
   obtain ⟨r,hrr⟩:∃r,r=m.refs.getD k default:=⟨_,rfl⟩
   rw [←hrr] at hr hr' bad
   have hok:refOK r=true↔(1≤r.kind∧r.kind≤9)∧1≤r.id∧r.id≤1099511627776:=by simp [refOK];omega
   have hu2:=fun _:Unit=>hu
   clear hu
   by_cases a1:r.kind < 1
   ·refine wk ?_
    refine retP rfl (by exact lw) ?_
    rw [bad (fun h=>by have:=hok.1 h.1;omega)];rfl
   by_cases a2:9 < r.kind
   ·refine wk ?_
    refine retP rfl (by exact lw) ?_
    rw [bad (fun h=>by have:=hok.1 h.1;omega)];rfl
   by_cases a3:r.id < 1
   ·refine wk ?_
    refine retP rfl (by exact lw) ?_
    rw [bad (fun h=>by have:=hok.1 h.1;omega)];rfl
   by_cases a4:1099511627776 < r.id
   ·refine wk ?_
    refine retP rfl (by exact lw) ?_
    rw [bad (fun h=>by have:=hok.1 h.1;omega)];rfl
   have hokr:refOK r=true:=hok.2 (by omega)
   by_cases hk0:k=0
   ·subst hk0
    refine wk ?_
    refine loopP 1 ⟨by omega,fun j hj=>?_⟩ (by omega) ?_
    ·obtain rfl:j=0:=by omega
     exact ⟨by rw [←hrr];exact hokr,by omega⟩
    ·exact sb
   ·obtain ⟨j,rfl⟩:∃j,k=j+1:=⟨k - 1,by omega⟩
    have ho:=pw_order (m.refs.getD (((j+1:Nat):Int) - 1).toNat default) r
    have hlt':=ordR_lt (a:=m.refs.getD (((j+1:Nat):Int) - 1).toNat default) (b:=r)
    have ej:(((j+1:Nat):Int) - 1).toNat=j:=by omega
    generalize ordR (m.refs.getD (((j+1:Nat):Int) - 1).toNat default) r=z at *
    simp only [Nat.add_sub_cancel] at bad
    by_cases hz:z < 0
    ·refine wk ?_
     refine loopP (j+2) ⟨by omega,fun i hi=>?_⟩ (by omega) ?_
     ·by_cases hij:i=j+1
      ·subst hij
       rw [←hrr]
       exact ⟨hokr,fun _=>by rw [ej] at hlt'; exact hlt'.1 hz⟩
      ·exact hu2 () i (by omega)
     ·exact sb
    ·refine wk ?_
     refine retP rfl (by exact lw) ?_
     rw [bad (fun h=>hz (hlt'.2 (by rw [ej];exact h.2 (by omega))))];rfl
  ·obtain rfl:k=m.refs.length:=by omega
   have hR:risesM m.refs=true:=(rises_up _).2 hu
   have hany:m.notes.any wideB = !(m.notes.all noteOK):=by simp [wideB,List.any_eq_not_all_not]
   have eR:rightM m=(decide (0≤m.ver) && (decide (m.ver≤1099511627776) && (m.notes.all noteOK && (decide (0 < m.ver) || decide (m.notes.length+m.refs.length=0))))):=by unfold rightM;rw [hR];simp
   rw [hany] at hc
   clear hu hR hany
   rw [eR]
   clear eR
   by_cases b1:0≤m.ver
   ·by_cases b2:m.ver≤1099511627776
    ·cases hn:m.notes.all noteOK with
     |false=>
      rw [hn] at hc
      refine wk ?_
      refine retP rfl (by exact lw) ?_
      simp [pbool]
     |true=>
      rw [hn] at hc
      by_cases b3:0 < m.ver
      ·refine wk ?_
       refine retP rfl (by exact lw) ?_
       simp [pbool,b1,b2,b3]
      ·by_cases b4:m.notes.length+m.refs.length=0
       ·refine wk ?_
        refine retP rfl (by exact lw) ?_
        simp [pbool,b1,b2,b4]
       ·refine wk ?_
        refine retP rfl (by exact lw) ?_
        simp only [pbool,decide_eq_false b3,decide_eq_false b4,Bool.or_self,Bool.and_false]
    ·refine wk ?_
     refine retP rfl (by exact lw) ?_
     simp [pbool,b2]
   ·refine wk ?_
    refine retP rfl (by exact lw) ?_
    simp [pbool,b1]
set_option maxRecDepth 10000 in
set_option maxHeartbeats 1000000 in
theorem pw_mCheck (m:PMan) (h1:m.notes.length≤1000000000) (h2:m.refs.length≤1000000000):PCalls Tryz.prog 8 [pman m] (· = pint (checkM 2 3 m)):=by
 have hc:=pw_right m h1 h2
 have hlm:=low_pmanL m
 refine pcalls_of_pw typeTab_ok Tryz.func8 rfl (by kernel_rfl) (by simp [low_pint,low_pints,low_pstr,low_pbool,low_pbytes,low_pstrs,low_pman]) (by simp [pint,pints,pstr,pbool,pstrs,pbytes,PV.ownB,pman]) (by rw [Tryz.ntmps8];simp) ?_
 rw [Tryz.ntmps8,Tryz.results8]
 unfold checkM
 by_cases a1:16 < m.notes.length
 ·rw [if_pos (.inl a1)]
  refine wk ?_
  exact retP rfl (by exact lw) rfl
 by_cases a2:600 < m.refs.length
 ·rw [if_pos (.inr a2)]
  refine wk ?_
  exact retP rfl (by exact lw) rfl
 rw [if_neg (by omega)]
 cases hr:rightM m with
 |true=>
  rw [hr] at hc
  rw [if_pos rfl]
  refine wk ?_
  exact retP rfl (by exact lw) rfl
 |false=>
  rw [hr] at hc
  rw [if_neg (by simp)]
  refine wk ?_
  exact retP rfl (by exact lw) rfl
theorem pc_concatB3 (a b c:List Int) (h:a.length+b.length+c.length≤1000000000):PCalls Tryz.prog 33 [.sl 3 1 [pbytes a,pbytes b,pbytes c] none] (· = pbytesO (a ++ (b ++ c))):=
 pcalls1 (by kernel_rfl) fun Φ μ w v himm hr=>by
  obtain ⟨a1,g,off,cap,us,rfl,h1,h2,h3,h4,h5,h6⟩:=hr.sl_inv
  have r0:=bytes_of_rep himm (h6 0 (pbytes a) rfl)
  have r1:=bytes_of_rep himm (h6 1 (pbytes b) rfl)
  have r2:=bytes_of_rep himm (h6 2 (pbytes c) rfl)
  have k0:=himm _ _ _ (h5 0 (by simp))
  have k1:=himm _ _ _ (h5 1 (by simp))
  have k2:=himm _ _ _ (h5 2 (by simp))
  have hrd:Rd w (.slice a1 3 cap) [us 0,us 1,us 2]:=⟨a1,cap,g,off,rfl,h1,h2,fun _=>h4 (by omega),fun j u hu=>by
   match j,hu with
   |0,hu=>cases hu;exact k0
   |1,hu=>cases hu;exact k1
   |2,hu=>cases hu;exact k2⟩
  refine (slicesConcatB _ [us 0,us 1,us 2] [a,b,c] w hrd rfl (by simp) (Hid.mk fun i u l hu hl=>?_) (by simp;omega)).mono ?_
  ·match i,hu,hl with
   |0,hu,hl=>cases hu;cases hl;exact r0
   |1,hu,hl=>cases hu;cases hl;exact r1
   |2,hu,hl=>cases hu;cases hl;exact r2
  ·rintro e w' ⟨u,rfl,ho,hb⟩
   have e:([a,b,c]:List (List Int)).flatten=a ++ (b ++ c):=by simp
   rw [e] at ho
   exact post_own himm (plain_int _) ho hb
theorem toList_eq (a b:ByteArray):(a.toList == b.toList)=decide (a=b):=by
 by_cases h:a=b
 ·subst h;simp
 ·rw [decide_eq_false h]
  cases e:(a.toList == b.toList) with
  |false=>rfl
  |true=>
   have h1:=eq_of_beq e
   rw [ByteArray.toList_eq,ByteArray.toList_eq] at h1
   exact absurd (ba_ext h1) h
set_option maxRecDepth 10000 in
theorem pw_bytesEqual (a b:List Int) (h1:Byte a) (h2:Byte b):PCalls Tryz.prog 38 [pbytes a,pbytes b] (· = pbool (decide (a=b))):=by
 refine pcalls_of_pw typeTab_ok Tryz.func38 rfl (by kernel_rfl) (by simp [low_pint,low_pints,low_pstr,low_pbool,low_pbytes,low_pstrs]) (by simp [pint,pints,pstr,pbool,pstrs,pbytes,PV.ownB]) (by rw [Tryz.ntmps38];simp) ?_
 rw [Tryz.ntmps38,Tryz.results38]
 refine wk ?_
 refine PWops.val rfl rfl rfl rfl ?_
 refine wk ?_
 refine retP rfl (by exact lw) ?_
 rw [toList_eq]
 by_cases h:a=b
 ·subst h;simp [pbool]
 ·have hs:¬strI a=strI b:=fun e=>h (strOf_inj h1.all h2.all e)
  rw [decide_eq_false h,decide_eq_false hs];rfl
theorem nosM_take {l:List PRef} {k:Nat} {r:PRef} (h:l[k]? = some r):nosM (l.take (k+1))=nosM (l.take k) ++ [r.kind,r.id]:=by
 rw [List.take_add_one,h];simp [nosM]
theorem digsM_take {l:List PRef} {k:Nat} {r:PRef} (h:l[k]? = some r):digsM (l.take (k+1))=digsM (l.take k) ++ [strOf r.dig]:=by
 rw [List.take_add_one,h];simp [digsM]
theorem dig16 {d:List Int} (h:d.length=16) : [d.getD 0 0,d.getD 1 0,d.getD 2 0,d.getD 3 0,d.getD 4 0,d.getD 5 0,d.getD 6 0,d.getD 7 0,d.getD 8 0,d.getD 9 0,d.getD 10 0,d.getD 11 0,d.getD 12 0,d.getD 13 0,d.getD 14 0,d.getD 15 0]=d:=by
 match d,h with
 | [_,_,_,_,_,_,_,_,_,_,_,_,_,_,_,_],_=>rfl
structure EncM (m:PMan):Prop where
 f1:Fit (m.ver :: m.notes)
 f2:Fit (nosM m.refs)
 d:DigsOK m
 l1:m.notes.length≤100000
 l2:m.refs.length≤100000
set_option maxRecDepth 10000 in
set_option maxHeartbeats 4000000 in
theorem pw_mEncode (m:PMan) (h:EncM m):PCalls Tryz.prog 9 [pman m] (· = pbytesO (encM m)):=by
 obtain ⟨f1,f2,hd,l1,l2⟩:=h
 have hlm:=low_pmanL m
 have hln:Low (pints m.notes):=(low_pints _).2 trivial
 have hlr:Low (prefs m.refs):=(low_prefs _).2 trivial
 refine pcalls_of_pw typeTab_ok Tryz.func9 rfl (by kernel_rfl) (by simp [low_pint,low_pints,low_pstr,low_pbool,low_pbytes,low_pstrs,low_pman]) (by simp [pint,pints,pstr,pbool,pstrs,pbytes,PV.ownB,pman]) (by rw [Tryz.ntmps9];simp) ?_
 rw [Tryz.ntmps9,Tryz.results9]
 have fl:=rows_len m.refs
 refine wk ?_
 refine PW.loop (fun k:Nat=>((((((bot.setb 0 (pmanL m)).put 1 (.ptr 0 0)).put 3 (.sl (2 * k) 1 ((nosM (m.refs.take k)).map pint) (some 3))).put 4 (.sl k 1 ((digsM (m.refs.take k)).map pstr) (some 9))).put 8 (prefs m.refs)).put 9 (pint m.refs.length)).put 10 (pint k)) (fun k=>k≤m.refs.length) (fun k=>m.refs.length - k) 0 (by omega) ?_ ?_
 ·(refine Sub.same ?_;(repeat (first|exact SubR.bot|((with_reducible refine SubR.isp ?_);refine SubR.put ?_ (by exact rq0))|((with_reducible refine SubR.isb ?_);refine SubR.setb ?_ rfl rfl (by exact rl0))|((with_reducible refine SubR.ism ?_);refine SubR.setm ?_ rfl rfl (by (first|exact ⟨rfl,rfl,rfl,rfl,rfl⟩|exact RenM.low (by first|assumption|exact hlowm _|exact hlowm _ _))))|refine SubR.put ?_ (.inl (ren_eqlow (sl_eq ?_ ?_) (by exact lw))))))
 ·intro k hk
  by_cases hlt:k < m.refs.length
  ·have hr:=getD_row hlt
   have hr':=ref_cell hr
   obtain ⟨r,hrr⟩:∃r,r=m.refs.getD k default:=⟨_,rfl⟩
   rw [←hrr] at hr hr'
   have hdr:=hd r (List.mem_of_getElem? hr)
   clear hd
   refine wk ?_
   refine PWops.strM (l := [r.dig.getD 0 0,r.dig.getD 1 0,r.dig.getD 2 0,r.dig.getD 3 0,r.dig.getD 4 0,r.dig.getD 5 0,r.dig.getD 6 0,r.dig.getD 7 0,r.dig.getD 8 0,r.dig.getD 9 0,r.dig.getD 10 0,r.dig.getD 11 0,r.dig.getD 12 0,r.dig.getD 13 0,r.dig.getD 14 0,r.dig.getD 15 0]) (s:=strOf r.dig) rfl rfl rfl rfl rfl rfl rfl rfl rfl rfl rfl rfl rfl (Nat.le_of_ble_eq_true rfl) rfl (congrArg strOf (dig16 hdr.1)) ?_
   refine wk ?_
   refine loopP (k+1) (by omega) (by omega) ?_
   (refine Sub.same ?_;(repeat (first|exact SubR.bot|((with_reducible refine SubR.isp ?_);refine SubR.put ?_ (by exact rq0))|((with_reducible refine SubR.isb ?_);refine SubR.setb ?_ rfl rfl (by exact rl0))|((with_reducible refine SubR.ism ?_);refine SubR.setm ?_ rfl rfl (by (first|exact ⟨rfl,rfl,rfl,rfl,rfl⟩|exact RenM.low (by first|assumption|exact hlowm _|exact hlowm _ _))))|refine SubR.put ?_ (.inl (ren_eqlow (sl_eq ?_ ?_) (by exact lw))))))
   ·omega
   ·rw [nosM_take hr,List.map_append];rfl
   ·omega
   ·rw [digsM_take hr,List.map_append];rfl
  ·obtain rfl:k=m.refs.length:=by omega
   have e0:m.refs.take m.refs.length=m.refs:=List.take_length
   rw [e0]
   have hc1:=pcInts (m.ver :: m.notes) f1 (by simp only [List.length_cons];omega)
   have hc2:=pcInts (nosM m.refs) f2 (by rw [nosM_len];omega)
   have hc3:=pcStrings (digsM m.refs) (digs_small hd) (by rw [digsM_len];omega)
   have e1:PV.sl (1+m.notes.length) 1 ([pint m.ver] ++ m.notes.map pint) none=pints (m.ver :: m.notes):=sl_eq (by simp only [List.length_cons];omega) rfl
   have e2:PV.sl (2 * m.refs.length) 1 ((nosM m.refs).map pint) none=pints (nosM m.refs):=sl_eq (by rw [nosM_len]) rfl
   have e3:PV.sl m.refs.length 1 ((digsM m.refs).map pstr) none=pstrs (digsM m.refs):=sl_eq (by rw [digsM_len]) rfl
   have b1:=flat_len (m.ver :: m.notes) f1
   have b2:=flat_len (nosM m.refs) f2
   have b3:=digs_len m.refs (fun r hr=>(hd r hr).1)
   have b4:=intB_len ((m.ver :: m.notes).length:Nat) (by omega) (by simp only [List.length_cons];omega)
   have b5:=intB_len ((nosM m.refs).length:Nat) (by omega) (by rw [nosM_len];omega)
   have b6:=intB_len ((digsM m.refs).length:Nat) (by omega) (by rw [digsM_len];omega)
   have hb:(intsB (m.ver :: m.notes)).length+(intsB (nosM m.refs)).length+(strsB (digsM m.refs)).length≤1000000000:=by
    unfold intsB strsB
    simp only [List.length_append]
    rw [nosM_len] at b2
    simp only [List.length_cons] at b1
    omega
   have hc4:=pc_concatB3 (intsB (m.ver :: m.notes)) (intsB (nosM m.refs)) (strsB (digsM m.refs)) hb
   clear hd f1 f2 b1 b2 b3 b4 b5 b6 hb
   rw [←e1] at hc1
   rw [←e2] at hc2
   rw [←e3] at hc3
   clear e1 e2 e3
   refine wk ?_
   exact retP rfl (by exact lw) rfl
end
section
open Go.ChangeShapes Go.WideShapes Go.ChangeAt Go.RowKit
theorem wfI {z:Int} (h:(Lit.int .i64 z).wf=true):Fit64 z:=by
 simp [Lit.wf,IntKind.min,IntKind.max,IntKind.signed,IntKind.bits] at h
 exact ⟨by omega,by omega⟩
theorem wfB {z:Int} (h:(Lit.int .u8 z).wf=true):0≤z∧z < 256:=by
 simp [Lit.wf,IntKind.min,IntKind.max,IntKind.signed,IntKind.bits] at h
 exact ⟨by omega,by omega⟩
theorem flatMap_1 {α:Type} (f:α→PV) (l:List α):l.flatMap (fun x => [f x])=l.map f:=by
 induction l with
 |nil=>rfl
 |cons x l ih=>simp [ih]
theorem opensI:Opens Tryz.prog 3 (fun z => [pint z]) Fit64:=(opens_int Tryz.underlying3).map id (fun _ _=>rfl) (fun _ h=>wfI h)
theorem opensB:Opens Tryz.prog 5 (fun z => [pbyte z]) (fun z=>0≤z∧z < 256):=(opens_int Tryz.underlying5).map id (fun _ _=>rfl) (fun _ h=>wfB h)
theorem opensIs:Opens Tryz.prog 22 (fun l => [pints l]) (fun l=>(∀z∈l,Fit64 z)∧l.length * 8≤reachBytes):=
 (opens_slice Tryz.underlying22 (by kernel_rfl) (by decide) (by kernel_rfl) opensI (fun _ _=>rfl)).map id (fun a _=>by show [pints a]=_;rw [flatMap_1];rfl) (fun _ h=>h)
theorem prefL_dig {r:PRef} (h:r.dig.length=16):prefL r=pint r.kind :: pint r.id :: r.dig.map pbyte:=by
 have:=dig16 h
 unfold prefL dg
 rw [←this]
 rfl
def RefOKA (r:PRef):Prop:=Fit64 r.kind∧Fit64 r.id∧r.dig.length=16∧∀c∈r.dig,0≤c∧c < 256
theorem opensRef:Opens Tryz.prog 42 prefL RefOKA:=
 (opens_struct Tryz.underlying42 (opensFs_1 rfl opensI (by kernel_rfl) (opensFs_1 rfl opensI (by kernel_rfl) (opensFs_cons (k:=16) rfl (by kernel_rfl) (opens_array (n:=16) (k:=1) Tryz.underlying40 (by kernel_rfl) (by kernel_rfl) opensB) opensFs_nil))) (by kernel_rfl)).map
  (fun p=>(⟨p.1,p.2.1,p.2.2.1⟩:PRef)) (fun p h=>by
   rw [prefL_dig h.2.2.1.2]
   show _=pint p.1 :: pint p.2.1 :: (p.2.2.1.flatMap (fun z => [pbyte z]) ++ [])
   rw [List.append_nil,flatMap_1]) (fun _ h=>⟨h.1,h.2.1,h.2.2.1.2,h.2.2.1.1⟩)
theorem opensRefs:Opens Tryz.prog 23 (fun l => [prefs l]) (fun l=>(∀r∈l,RefOKA r)∧l.length * 32≤reachBytes):=
 (opens_slice Tryz.underlying23 (by kernel_rfl) (by decide) (by kernel_rfl) opensRef (fun _ _=>rfl)).map id (fun a _=>rfl) (fun _ h=>h)
structure GoodM (m:PMan):Prop where
 ver:Fit64 m.ver
 notes:∀z∈m.notes,Fit64 z
 refs:∀r∈m.refs,RefOKA r
 len1:m.notes.length * 8≤reachBytes
 len2:m.refs.length * 32≤reachBytes
theorem argMan:ArgOpens Tryz.prog 25 pman GoodM:=
 (arg_struct Tryz.underlying25 (opens_struct Tryz.underlying25 (opensFs_1 rfl opensI (by kernel_rfl) (opensFs_1 rfl opensIs (by kernel_rfl) (opensFs_1 rfl opensRefs (by kernel_rfl) opensFs_nil))) (by kernel_rfl))).map
  (fun p=>(⟨p.1,p.2.1,p.2.2.1⟩:PMan)) (fun _ _=>rfl) (fun _ h=>⟨h.1,h.2.1.1,h.2.2.1.1,h.2.1.2,h.2.2.1.2⟩)
theorem reachE:reachBytes=140737488351232:=rfl
theorem GoodM.digs {m:PMan} (h:GoodM m):DigsOK m:=fun r hr=>⟨(h.refs r hr).2.2.1,(h.refs r hr).2.2.2⟩
theorem GoodM.len {m:PMan} (h:GoodM m):m.notes.length≤1000000000000000∧m.refs.length≤1000000000000000:=by
 have e:=reachE
 have h1:=h.len1
 have h2:=h.len2
 exact ⟨by omega,by omega⟩
end
section
open Go.RowKit
theorem refsOf_get:∀(t:List ByteArray) (r:List Int) (i:Nat),r.length=2 * t.length→i < t.length→(refsOf r t)[i]? = some ⟨r.getD (2 * i) default,r.getD (2 * i+1) default,bytesL (t.getD i default)⟩
 | [],r,i,h,hi=>by simp at hi
 |s :: t,r,i,h,hi=>by
  match r,h with
  | [],h=>simp at h
  | [k],h=>simp at h;omega
  |k :: j :: r,h=>
   cases i with
   |zero=>rfl
   |succ i=>
    have ih:=refsOf_get t r i (by simp at h;omega) (by simpa using hi)
    show (refsOf r t)[i]? = _
    rw [ih]
    rfl
theorem refsOf_len (t:List ByteArray) (r:List Int) (h:r.length=2 * t.length):(refsOf r t).length=t.length:=(refsOf_back t r h).2.2
def fldR (L:List PRef) (k:Nat):PV:=.sl k 18 ((L.take k).flatMap prefL) (some 42)
theorem fldR_succ {L:List PRef} {k:Nat} {x:PRef} (h:L[k]? = some x):fldR L (k+1) = .sl (k+1) 18 ((L.take k).flatMap prefL ++ prefL x) (some 42):=by
 rw [fldR,List.take_add_one,h]
 simp [List.flatMap_append]
def manC (v:Int) (ns:List Int) (p:PV):List PV := [pint v,pints ns,p]
theorem low_fldR (L:List PRef) (k:Nat):Low (fldR L k):=.sl _ _ _ _ (low_rows _)
theorem low_manC (v:Int) (ns:List Int) (L:List PRef) (k:Nat):∀c∈manC v ns (fldR L k),Low c:=by
 intro c hc
 simp only [manC,List.mem_cons,List.not_mem_nil,or_false] at hc
 rcases hc with rfl|rfl|rfl
 ·exact .val _
 ·exact (low_pints _).2 trivial
 ·exact low_fldR L k
def nilM:List PV := [pint 0, .nilsl, .nilsl]
theorem low_nilM:∀c∈nilM,Low c:=by
 intro c hc
 simp only [nilM,List.mem_cons,List.not_mem_nil,or_false] at hc
 rcases hc with rfl|rfl|rfl
 ·exact .val _
 ·exact .nilsl
 ·exact .nilsl
theorem weak_nilM:Weak (.agg nilM) (pman zeroM):=.agg (.cons (.refl _) (.cons (.nil 1) (.cons (.nil 18) .nil)))
def pmanO:Option PMan→PV
 |none=>.tup [pman zeroM,pint 11]
 |some m=>.tup [pman m,pint 0]
theorem weak_none:Weak (.tup [.agg nilM,pint 11]) (pmanO none):=.tup (.cons weak_nilM (.cons (.refl _) .nil))
theorem low_none:Low (.tup [.agg nilM,pint 11]):=low_tup.2 (by simp only [List.mem_cons,List.not_mem_nil,or_false];rintro x (rfl|rfl);exact .agg _ low_nilM;exact .val _)
theorem strC_eq (s:ByteArray):strC s=(bytesL s).map pbyte:=by simp [strC,bytesL,pbyte]
theorem strC_dig {s:ByteArray} (k i:Int) (h:s.size=16):strC s=digL ⟨k,i,bytesL s⟩:=by
 rw [strC_eq]
 have hl:(bytesL s).length=16:=by rw [bytesL_len,h]
 unfold digL dg
 simp only
 generalize bytesL s=d at hl
 match d,hl with
 | [_,_,_,_,_,_,_,_,_,_,_,_,_,_,_,_],_=>rfl
theorem low_pmanO (o:Option PMan):Low (pmanO o):=by
 cases o<;>exact .tup _ (by simp only [List.mem_cons,List.not_mem_nil,or_false];rintro x (rfl|rfl);exact (low_pman _).2 trivial;exact .val _)
set_option maxRecDepth 10000 in
set_option maxHeartbeats 8000000 in
theorem pw_mDecode (bs:List Int) (hby:Byte bs) (hl:bs.length≤1000000000):PCalls Tryz.prog 10 [pbytes bs] (· = pmanO (decA bs)):=by
 have hln:=low_nilM
 refine PCalls.weak ?_
 refine pcalls_of_pw typeTab_ok Tryz.func10 rfl (by kernel_rfl) (by simp [low_pint,low_pints,low_pstr,low_pbool,low_pbytes,low_pstrs]) (by simp [pint,pints,pstr,pbool,pstrs,pbytes,PV.ownB]) (by rw [Tryz.ntmps10];simp) ?_
 rw [Tryz.ntmps10,Tryz.results10]
 have cg:=pcGetInts bs hby (by omega)
 obtain ⟨a,u,er,h1⟩:∃a u er,getInts bs=(a,u,er):=⟨_,_,_,rfl⟩
 rw [h1] at cg
 simp only at cg
 refine wk ?_
 by_cases g1:er=0
 case neg=>
  refine wk ?_
  refine retP (r:=.tup [.agg nilM,pint 11]) rfl low_none ?_
  have hD:decA bs=none:=by rw [decA,h1,if_pos (.inl g1)]
  rw [hD];exact weak_none
 subst g1
 obtain ⟨t1,t2,t3⟩:=getInts_take bs a u hby.all h1
 have t4:=getInts_short bs a u hby.all h1
 refine wk ?_
 by_cases g2:a.length=0
 ·refine wk ?_
  refine retP (r:=.tup [.agg nilM,pint 11]) rfl low_none ?_
  have hD:decA bs=none:=by rw [decA,h1,if_pos (.inr (List.eq_nil_of_length_eq_zero g2))]
  rw [hD];exact weak_none
 obtain ⟨U,rfl⟩:∃N:Nat,u=N:=⟨u.toNat,by omega⟩
 have cg2:=pcGetInts (bs.drop U) (hby.drop U) (by rw [List.length_drop];omega)
 obtain ⟨b,v,er,h2⟩:∃b v er,getInts (bs.drop U)=(b,v,er):=⟨_,_,_,rfl⟩
 rw [h2] at cg2
 simp only at cg2
 have hne:¬((0:Int)≠0∨a = []):=by rintro (h|h);exact h rfl;rw [h] at g2;exact g2 rfl
 have hD:decA bs=if er≠0 then none else
   if (getStrs (bs.drop (U+v.toNat))).2.2≠0∨b.length≠2 * (getStrs (bs.drop (U+v.toNat))).1.length then none
   else if (getStrs (bs.drop (U+v.toNat))).1.any (fun s=>decide (s.size≠16))=true then none
   else if checkM 1 2 ⟨a.headD 0,a.tail,refsOf b (getStrs (bs.drop (U+v.toNat))).1⟩≠0∨encM ⟨a.headD 0,a.tail,refsOf b (getStrs (bs.drop (U+v.toNat))).1⟩≠bs then none else some ⟨a.headD 0,a.tail,refsOf b (getStrs (bs.drop (U+v.toNat))).1⟩:=by
  rw [decA,h1]
  simp only
  rw [if_neg hne,Int.toNat_natCast,h2]
 clear hne h1 t1
 refine wk ?_
 by_cases g3:er=0
 case neg=>
  refine wk ?_
  refine retP (r:=.tup [.agg nilM,pint 11]) rfl low_none ?_
  rw [hD,if_pos g3];exact weak_none
 subst g3
 rw [if_neg (by simp)] at hD
 obtain ⟨t5,t6,t7⟩:=getInts_take (bs.drop U) b v (hby.drop U).all h2
 have t8:=getInts_short (bs.drop U) b v (hby.drop U).all h2
 obtain ⟨V,rfl⟩:∃N:Nat,v=N:=⟨v.toNat,by omega⟩
 rw [Int.toNat_natCast] at hD
 rw [List.length_drop] at t7 t8
 have eUV:((U:Int)+V).toNat=U+V:=by omega
 have cs:=pcGetStrs (bs.drop (U+V)) (hby.drop (U+V)) (by rw [List.length_drop];omega)
 obtain ⟨d,w,er,h3⟩:∃d w er,getStrs (bs.drop (U+V))=(d,w,er):=⟨_,_,_,rfl⟩
 rw [h3] at cs hD
 simp only at cs hD
 clear h2 t5
 refine wk ?_
 by_cases g4:er=0
 case neg=>
  refine wk ?_
  refine retP (r:=.tup [.agg nilM,pint 11]) rfl low_none ?_
  rw [hD,if_pos (.inl g4)];exact weak_none
 subst g4
 have t9:=getStrs_len (bs.drop (U+V)) d w (hby.drop (U+V)).all h3
 have t10:=t9.1
 have t11:=t9.2
 rw [List.length_drop] at t10
 clear t9 h3
 by_cases g5:b.length=2 * d.length
 case neg=>
  refine wk ?_
  refine retP (r:=.tup [.agg nilM,pint 11]) rfl low_none ?_
  rw [hD,if_pos (.inr g5)];exact weak_none
 rw [if_neg (by simp [g5])] at hD
 obtain ⟨L,hL⟩:∃L,L=refsOf b d:=⟨_,rfl⟩
 rw [←hL] at hD
 have hLl:L.length=d.length:=by rw [hL];exact refsOf_len d b g5
 have hLg:∀i,i < d.length→L[i]? = some ⟨b.getD (2 * i) default,b.getD (2 * i+1) default,bytesL (d.getD i default)⟩:=fun i hi=>by rw [hL];exact refsOf_get d b i g5 hi
 obtain ⟨v0,ns,rfl⟩:∃v0 ns,a=v0 :: ns:=by cases a with|nil=>exact absurd rfl g2|cons x y=>exact ⟨x,y,rfl⟩
 simp only [List.headD_cons,List.tail_cons] at hD
 have hbad:(∃i,i < d.length∧(d.getD i default).size≠16)→decA bs=none:=fun ⟨i,hi,h⟩=>by
  rw [hD,if_pos]
  rw [List.any_eq_true]
  refine ⟨d.getD i default,?_,by simpa using h⟩
  rw [List.getD_eq_getElem?_getD,List.getElem?_eq_getElem hi];exact List.getElem_mem hi
 clear hL
 have hDu:=fun _:Unit=>hD
 clear hD
 refine wk ?_
 refine PW.loop (fun i:Nat=>((((((((((((bot.setb 0 nilM).setb 10006 (manC v0 ns (fldR L i))).put 0 (pbytes bs)).put 2 (.ptr 0 0)).put 7 (pints b)).put 9 (pstrs d)).put 11 (.ptr 10006 0)).put 66 (pstrs d)).put 67 (pint d.length)).put 68 (pint i))).put 3 (pint 0))) (fun i=>i≤d.length∧∀j,j < i→(d.getD j default).size=16) (fun i=>d.length - i) 0 ⟨by omega,fun j hj=>by omega⟩ ?_ ?_
 ·have hlm:=low_manC v0 ns L 0
  exact sb
 ·rintro i ⟨hi,hs⟩
  have hlm:=low_manC v0 ns L i
  by_cases hlt:i < d.length
  ·have hsu:=fun _:Unit=>hs
   clear hs
   refine wk ?_
   by_cases g6:(d.getD i default).size=16
   case neg=>
    refine wk ?_
    refine retP (r:=.tup [.agg nilM,pint 11]) rfl low_none ?_
    rw [hbad ⟨i,hlt,g6⟩];exact weak_none
   have hx:=hLg i hlt
   have hfs:=fldR_succ hx
   have hlm2:=low_manC v0 ns L (i+1)
   have hdr:=strC_dig (b.getD (2 * i) default) (b.getD (2 * i+1) default) g6
   refine wk ?_
   refine PWops.bytS rfl rfl rfl rfl rfl rfl rfl rfl rfl rfl rfl rfl (by omega) g6 hdr ?_
   refine wk ?_
   refine loopP (i+1) ⟨by omega,fun j hj=>?_⟩ (by omega) ?_
   ·by_cases hj2:j=i
    ·subst hj2;exact g6
    ·exact hsu () j (by omega)
   rw [hfs] at hlm2
   try dsimp only
   rw [hfs]
   exact sb
  ·obtain rfl:i=d.length:=by omega
   have hany:d.any (fun s=>decide (s.size≠16))=false:=by
    rw [List.any_eq_false]
    intro s hs'
    obtain ⟨j,hj,rfl⟩:=List.getElem_of_mem hs'
    have:=hs j hj
    rw [List.getD_eq_getElem?_getD,List.getElem?_eq_getElem hj] at this
    simpa using this
   have hdg:∀r∈L,r.dig.length=16∧∀c∈r.dig,0≤c∧c < 256:=by
    intro r hr
    obtain ⟨j,hj,rfl⟩:=List.getElem_of_mem hr
    have h4:=hLg j (by omega)
    rw [List.getElem?_eq_getElem hj,Option.some.injEq] at h4
    rw [h4]
    simp only
    exact ⟨by rw [bytesL_len];exact hs j (by omega),bytesL_byte _⟩
   have hD:=hDu ()
   rw [hany,if_neg (by simp)] at hD
   clear hany hs hLg hbad hDu t11 cs cg cg2
   simp only [List.length_cons] at t4
   have e0:L.take d.length=L:=List.take_of_length_le (by omega)
   have hm1:ns.length≤1000000000:=by omega
   have hm2:L.length≤1000000000:=by omega
   have hck:=pw_mCheck ⟨v0,ns,L⟩ hm1 hm2
   have hcod:checkM 2 3 ⟨v0,ns,L⟩=0↔checkM 1 2 ⟨v0,ns,L⟩=0:=by unfold checkM;repeat' split<;>simp
   have hD2:decA bs=if checkM 1 2 ⟨v0,ns,L⟩≠0∨encM ⟨v0,ns,L⟩≠bs then none else some ⟨v0,ns,L⟩:=hD
   have hd' : DigsOK ⟨v0,ns,L⟩:=hdg
   clear hD hdg
   have hlp:Low (pints ns):=(low_pints _).2 trivial
   have hlr:Low (prefs L):=(low_prefs _).2 trivial
   have hl3:=low_pmanL ⟨v0,ns,L⟩
   unfold fldR
   rw [e0,←hLl]
   by_cases z0:checkM 1 2 ⟨v0,ns,L⟩=0
   ·have z1:=hcod.2 z0
    rw [z1] at hck
    obtain ⟨n1,n2,hrM⟩:=checkM_ok (by decide) (by decide) z0
    obtain ⟨q1,q2⟩:=rightM_fit hrM
    have hEnc:=pw_mEncode ⟨v0,ns,L⟩ ⟨q1,q2,hd',by omega,by omega⟩
    have hbe:=pw_bytesEqual (encM ⟨v0,ns,L⟩) bs (Byte.of encM_byte) hby
    by_cases z2:encM ⟨v0,ns,L⟩=bs
    ·rw [hD2,if_neg (by rintro (h|h);exact h z0;exact h z2)]
     rw [decide_eq_true z2] at hbe
     clear hD2 hcod hd' hrM q1 q2
     refine wk ?_
     exact retP (r:=pmanO (some ⟨v0,ns,L⟩)) rfl (low_pmanO _) (Weak.refl _)
    ·rw [hD2,if_pos (.inr z2)]
     rw [decide_eq_false z2] at hbe
     clear hD2 hcod hd' hrM q1 q2
     refine wk ?_
     exact retP (r:=.tup [.agg nilM,pint 11]) rfl low_none weak_none
   ·have z1:checkM 2 3 ⟨v0,ns,L⟩≠0:=fun h=>z0 (hcod.1 h)
    rw [hD2,if_pos (.inl z0)]
    clear hD2 hd' hcod z0
    generalize checkM 2 3 ⟨v0,ns,L⟩=z at *
    refine wk ?_
    exact retP (r:=.tup [.agg nilM,pint 11]) rfl low_none weak_none
def tC (d:Nat) (at_:Nat) (m:PMan):List PV := [.ptr d 0,pint at_,pint m.ver,pints m.notes,prefs m.refs]
def tG (t d c m:Nat) (at_:Nat) (now:PMan) (D:DM):List (Nat×List PV):=(t,tC d at_ now) :: dG d c m D
def hfT (s:ByteArray):List Int:=ofS glob0 32 [s]
def secD (D:DM) (i:Nat):Option (List Int):=if (D.read i).2=0 then some (D.read i).1.1 else none
def readT (D:DM) (at_ slot:Nat):Option PMan:=readM hfT (upTo (secD D) (at_+slot * 256) 256)
def readV (o:Option PMan):PV:=.tup [pman (o.getD zeroM),pbool o.isSome]
theorem low_readV (o:Option PMan):Low (readV o):=.tup _ (by simp only [List.mem_cons,List.not_mem_nil,or_false];rintro x (rfl|rfl);exact (low_pman _).2 trivial;exact .val _)
theorem weak_readN:Weak (.tup [.agg nilM,pbool false]) (readV none):=.tup (.cons weak_nilM (.cons (.refl _) .nil))
theorem upTo_snoc {c:Nat→Option (List Int)} {b:List Int} : ∀(n a:Nat),(∀j,j < n→c (a+j)≠none)→c (a+n)=some b→upTo c a (n+1)=upTo c a n ++ b
 |0,a,_,h=>by
  rw [Nat.add_zero] at h
  simp [upTo,h]
 |n+1,a,h,h2=>by
  have h0:=h 0 (by omega)
  rw [Nat.add_zero] at h0
  obtain ⟨x,hx⟩:=Option.ne_none_iff_exists'.1 h0
  have ih:=upTo_snoc n (a+1) (fun j hj=>by rw [show a+1+j=a+(j+1) by omega];exact h (j+1) (by omega)) (by rw [show a+1+n=a+(n+1) by omega];exact h2)
  rw [upTo,hx]
  simp only
  rw [ih,upTo,hx]
  simp
theorem upTo_stop {c:Nat→Option (List Int)} : ∀(i n a:Nat),(∀j,j < i→c (a+j)≠none)→c (a+i)=none→i < n→upTo c a n=upTo c a i
 |0,n+1,a,_,h,_=>by
  rw [Nat.add_zero] at h
  simp [upTo,h]
 |i+1,n+1,a,h,h2,hn=>by
  have h0:=h 0 (by omega)
  rw [Nat.add_zero] at h0
  obtain ⟨x,hx⟩:=Option.ne_none_iff_exists'.1 h0
  have ih:=upTo_stop i n (a+1) (fun j hj=>by rw [show a+1+j=a+(j+1) by omega];exact h (j+1) (by omega)) (by rw [show a+1+i=a+(i+1) by omega];exact h2) (by omega)
  rw [upTo,hx,upTo,hx]
  simp only
  rw [ih]
theorem upTo_len {c:Nat→Option (List Int)} (h64:∀i b,c i=some b→b.length=64):∀(n a:Nat),(∀j,j < n→c (a+j)≠none)→(upTo c a n).length=64 * n
 |0,a,_=>rfl
 |n+1,a,h=>by
  have h0:=h 0 (by omega)
  rw [Nat.add_zero] at h0
  obtain ⟨x,hx⟩:=Option.ne_none_iff_exists'.1 h0
  rw [upTo,hx]
  simp only [List.length_append]
  rw [h64 a x hx,upTo_len h64 n (a+1) (fun j hj=>by rw [show a+1+j=a+(j+1) by omega];exact h (j+1) (by omega))]
  omega
theorem upTo_byte {c:Nat→Option (List Int)} (hb:∀i b,c i=some b→∀x∈b,0≤x∧x < 256):∀(n a:Nat),∀x∈upTo c a n,0≤x∧x < 256
 |0,a,x,hx=>by simp [upTo] at hx
 |n+1,a,x,hx=>by
  rw [upTo] at hx
  cases h:c a with
  |none=>rw [h] at hx;simp at hx
  |some b=>
   rw [h] at hx
   rcases List.mem_append.1 hx with h' | h'
   ·exact hb a b h x h'
   ·exact upTo_byte hb n (a+1) x h'
theorem secD_len {D:DM} : ∀i b,secD D i=some b→b.length=64:=by
 intro i b h
 unfold secD at h
 split at h
 ·cases h;exact (D.read i).1.2.1
 ·cases h
theorem secD_byte {D:DM} : ∀i b,secD D i=some b→∀x∈b,0≤x∧x < 256:=by
 intro i b h
 unfold secD at h
 split at h
 ·cases h;exact (D.read i).1.2.2
 ·cases h
theorem upTo_max {c:Nat→Option (List Int)} (h64:∀i b,c i=some b→b.length=64):∀(n a:Nat),(upTo c a n).length≤64 * n
 |0,a=>Nat.le_refl _
 |n+1,a=>by
  rw [upTo]
  cases h:c a with
  |none=>simp
  |some b=>
   have:=upTo_max h64 n (a+1)
   have:=h64 a b h
   simp only [List.length_append]
   omega
theorem pcGetBytes (bs:List Int) (hby:Byte bs):PCalls Tryz.prog 73 [pbytes bs] (· = .tup [pstr (getS bs).1,pint (getS bs).2.1,pint (getS bs).2.2]):=
 pcalls1 (by kernel_rfl) fun Φ μ w v himm hr=>(wireGetBytes v bs w (bytes_of_rep himm hr) hby).mono (by
  rintro e w' ⟨rfl,k,rfl⟩
  exact post_flat himm (RepL.cons (.val _ rfl) (RepL.cons (.val _ rfl) (RepL.cons (.val _ rfl) RepL.nil))).tup rfl rfl ((Still.one _ _).below _))
theorem dh_of_pw {f:FuncId} {fn:Func} {c:Code} {args:List PV} {D D' : DM} {r:PV} (hf:Tryz.prog.funcs[f]? = some fn) (hb:fn.body=some c) (hcb:callB Tryz.prog f=true) (hlow:∀p∈args,LowI (fun i=>i ∈ [1000001,1000002,1000003]) p) (hno:∀p∈args,p.ownB=false) (hn:args.length≤fn.ntmps) (hr:LowI (fun i=>i ∈ [1000001,1000002,1000003]) r)
  (h:PW Tryz.prog fn.ntmps c (RetH typeTab fn.results.toList r (dG 1000001 1000002 1000003 D') (dMs 1000003 D')) (initH args (dG 1000001 1000002 1000003 D) (dMs 1000003 D))):HCalls Tryz.prog f args (dG 1000001 1000002 1000003 D) (dMs 1000003 D) r (dG 1000001 1000002 1000003 D') (dMs 1000003 D'):=by
 have r3:∀D,ResIds (dG 1000001 1000002 1000003 D) (dMs 1000003 D) = [1000001,1000002,1000003]:=fun _=>rfl
 refine hcalls_of_pw typeTab_ok hf hb hcb hno hn (by rw [r3];decide) (by rw [r3];decide) ⟨by rw [r3];exact hlow,fun x hx=>?_,fun x hx=>?_,by rw [r3];exact hr,fun x hx=>?_,fun x hx=>?_,by simp [dG],by simp [dMs]⟩ h
 ·simp only [dG,List.mem_cons,List.not_mem_nil,or_false] at hx
  rcases hx with rfl|rfl
  ·exact dB_lowI (by rw [r3];decide) (by rw [r3];decide) D
  ·exact fun p hp=>(dC_low D p hp).lowI
 ·simp only [dMs,List.mem_cons,List.not_mem_nil,or_false] at hx
  subst hx
  exact fun e he=>⟨(dM_low D e he).1.lowI,(dM_low D e he).2.lowI⟩
 ·simp only [dG,List.mem_cons,List.not_mem_nil,or_false] at hx
  rcases hx with rfl|rfl
  ·exact dB_lowI (by rw [r3];decide) (by rw [r3];decide) D'
  ·exact fun p hp=>(dC_low D' p hp).lowI
 ·simp only [dMs,List.mem_cons,List.not_mem_nil,or_false] at hx
  subst hx
  exact fun e he=>⟨(dM_low D' e he).1.lowI,(dM_low D' e he).2.lowI⟩
theorem tC_lowI {S:Nat→Prop} {d:Nat} (hd:S d) (at_:Nat) (m:PMan):∀c∈tC d at_ m,LowI S c:=by
 intro c hc
 simp only [tC,List.mem_cons,List.not_mem_nil,or_false] at hc
 rcases hc with rfl|rfl|rfl|rfl|rfl
 ·exact .ptr _ _ hd
 ·exact .val _
 ·exact .val _
 ·exact ((low_pints _).2 trivial).lowI
 ·exact ((low_prefs _).2 trivial).lowI
theorem hfT_len (s:ByteArray):(hfT s).length=16:=by rw [hfT,ofS,List.length_take,sumS,outW_len];rfl
theorem outW_byteT (s:H8):∀i,∀c∈outW s i,0≤c∧c < 256
 |0,c,h=>by rw [outW] at h;rw [(List.mem_replicate.1 h).2];omega
 |i+1,c,h=>by
  rw [outW] at h
  rcases List.mem_or_eq_of_mem_set h with h|rfl
  ·exact outW_byteT s i c h
  ·unfold outV;rw [IntKind.wrap_u8];omega
theorem hfT_byte (s:ByteArray):∀x∈hfT s,0≤x∧x < 256:=fun x hx=>outW_byteT _ _ x (List.mem_of_mem_take hx)
theorem ren_tC {S:Nat→Prop} {d at_:Nat} {m:PMan} (h:S d):Ren (fun i=>i) S (.ep (tC d at_ m) 0) (.ep (tC d at_ m) 0):=by
 refine .ep 0 _ _ rfl fun j p q h1 h2=>?_
 rw [h1] at h2
 cases h2
 have hp:=mem_of_get h1
 simp only [tC,List.mem_cons,List.not_mem_nil,or_false] at hp
 rcases hp with rfl|rfl|rfl|rfl|rfl
 ·exact .ptr _ _ h
 ·exact .low _ (.val _)
 ·exact .low _ (.val _)
 ·exact .low _ ((low_pints _).2 trivial)
 ·exact .low _ ((low_prefs _).2 trivial)
set_option maxRecDepth 10000 in
set_option maxHeartbeats 2000000 in
theorem tc_readA (D:DM) (at_ slot:Nat) (now:PMan) (h:D.cells.length≤1000000000) (hop:∀e∈D.op,e.2.2.length≤1000000000) (ha:at_≤1000000000) (hs:slot≤4):HCalls Tryz.prog 81 [.ep (tC 1000001 at_ now) 0,pint slot] (dG 1000001 1000002 1000003 D) (dMs 1000003 D) (readV (readT D at_ slot)) (dG 1000001 1000002 1000003 D) (dMs 1000003 D):=by
 have c1:=dC_low D
 have c2:=dM_low D
 have hln:=low_nilM
 have hli:∀c∈tC 1000001 at_ now,LowI (fun i=>i ∈ [1000001,1000002,1000003]) c:=tC_lowI (by simp) at_ now
 refine dh_of_pw Tryz.func81 rfl rfl (by intro p hp;rcases List.mem_cons.1 hp with rfl|hp;exact .ep _ _ hli;rcases List.mem_cons.1 hp with rfl|hp;exact .val _;cases hp) (by simp [pint,PV.ownB]) (Nat.le_of_ble_eq_true rfl) (low_readV _).lowI ?_
 have hs64:=secD_len (D:=D)
 have hsb:=secD_byte (D:=D)
 refine wk ?_
 refine PW.cutB (fun _:Unit=>(((((((bot.setb 1000001 (dB 1000002 1000003 D)).setb 1000002 (dC D)).setm 1000003 (dM D)).setb 0 nilM).put 4 (.ptr 0 0)).put 6 (pbytes (upTo (secD D) (at_+slot * 256) 256))))) (fun _=>True) ?_ ?_
 ·refine PW.loop (fun i:Nat=>(((((((((bot.setb 1000001 (dB 1000002 1000003 D)).setb 1000002 (dC D)).setm 1000003 (dM D)).setb 0 nilM).put 0 (.ep (tC 1000001 at_ now) 0)).put 1 (pint slot)).put 4 (.ptr 0 0)).put 6 (.sl (64 * i) 1 ((upTo (secD D) (at_+slot * 256) i).map pbyte) (some 5)))).put 15 (pint i)) (fun i=>i≤256∧∀j,j < i→secD D (at_+slot * 256+j)≠none) (fun i=>256 - i) 0 ⟨by omega,fun j hj=>by omega⟩ ?_ ?_
  ·(refine Sub.same ?_;(repeat (first|exact SubR.bot|((with_reducible refine SubR.isp ?_);refine SubR.put ?_ (by (first|exact .inl (ren_tC rfl)|exact .inl (.ptr _ _ rfl)|exact .inl (.msl _ _ _ _ rfl)|exact .inl (.mref _ rfl)|exact .inl (.low _ (by (first|exact low_mapI|exact low_mapS|exact low_mapB|assumption|exact hlow _|exact hlow _ _|exact Low.agg _ (low_map (fun _=>Low.val _) _)|(simp [low_pu32,low_pu64,low_val,low_nilsl,low_sl,low_ep,low_agg,low_tup,low_fn,low_pint,low_pstr,low_pbool,low_pints,low_pstrs,low_pbyte,low_pbytes,hlow];done)|(simp [low_pu32,low_pu64,low_val,low_nilsl,low_sl,low_ep,low_agg,low_tup,low_fn,low_pint,low_pstr,low_pbool,low_pints,low_pstrs,low_pbyte,low_pbytes];done)|simp [low_pu32,low_pu64,low_val,low_nilsl,low_sl,low_ep,low_agg,low_tup,low_fn,low_pint,low_pstr,low_pbool,low_pints,low_pstrs,low_pbyte,low_pbytes,low_pattrs,low_pdefs,low_pschema,low_pentry])))|exact .inr (.inl (.low _ (by (first|exact low_mapI|exact low_mapS|exact low_mapB|assumption|exact hlow _|exact hlow _ _|exact Low.agg _ (low_map (fun _=>Low.val _) _)|(simp [low_pu32,low_pu64,low_val,low_nilsl,low_sl,low_ep,low_agg,low_tup,low_fn,low_pint,low_pstr,low_pbool,low_pints,low_pstrs,low_pbyte,low_pbytes,hlow];done)|(simp [low_pu32,low_pu64,low_val,low_nilsl,low_sl,low_ep,low_agg,low_tup,low_fn,low_pint,low_pstr,low_pbool,low_pints,low_pstrs,low_pbyte,low_pbytes];done)|simp [low_pu32,low_pu64,low_val,low_nilsl,low_sl,low_ep,low_agg,low_tup,low_fn,low_pint,low_pstr,low_pbool,low_pints,low_pstrs,low_pbyte,low_pbytes,low_pattrs,low_pdefs,low_pschema,low_pentry]))))|exact .inr (.inr ⟨_,_,rfl,rfl⟩))))|((with_reducible refine SubR.isb ?_);refine SubR.setb ?_ rfl rfl (by (first|exact RenQL.low (by first|assumption|exact hlow _|exact hlow _ _|exact low_map (fun _=>Low.val _) _)|exact RenQL.lowE (by assumption) (low_map (fun _=>Low.val _) _)|((repeat (refine RenQL.cons (by (first|exact .inl (ren_tC rfl)|exact .inl (.ptr _ _ rfl)|exact .inl (.msl _ _ _ _ rfl)|exact .inl (.mref _ rfl)|exact .inl (.low _ (by (first|exact low_mapI|exact low_mapS|exact low_mapB|assumption|exact hlow _|exact hlow _ _|exact Low.agg _ (low_map (fun _=>Low.val _) _)|(simp [low_pu32,low_pu64,low_val,low_nilsl,low_sl,low_ep,low_agg,low_tup,low_fn,low_pint,low_pstr,low_pbool,low_pints,low_pstrs,low_pbyte,low_pbytes,hlow];done)|(simp [low_pu32,low_pu64,low_val,low_nilsl,low_sl,low_ep,low_agg,low_tup,low_fn,low_pint,low_pstr,low_pbool,low_pints,low_pstrs,low_pbyte,low_pbytes];done)|simp [low_pu32,low_pu64,low_val,low_nilsl,low_sl,low_ep,low_agg,low_tup,low_fn,low_pint,low_pstr,low_pbool,low_pints,low_pstrs,low_pbyte,low_pbytes,low_pattrs,low_pdefs,low_pschema,low_pentry])))|exact .inr (.inl (.low _ (by (first|exact low_mapI|exact low_mapS|exact low_mapB|assumption|exact hlow _|exact hlow _ _|exact Low.agg _ (low_map (fun _=>Low.val _) _)|(simp [low_pu32,low_pu64,low_val,low_nilsl,low_sl,low_ep,low_agg,low_tup,low_fn,low_pint,low_pstr,low_pbool,low_pints,low_pstrs,low_pbyte,low_pbytes,hlow];done)|(simp [low_pu32,low_pu64,low_val,low_nilsl,low_sl,low_ep,low_agg,low_tup,low_fn,low_pint,low_pstr,low_pbool,low_pints,low_pstrs,low_pbyte,low_pbytes];done)|simp [low_pu32,low_pu64,low_val,low_nilsl,low_sl,low_ep,low_agg,low_tup,low_fn,low_pint,low_pstr,low_pbool,low_pints,low_pstrs,low_pbyte,low_pbytes,low_pattrs,low_pdefs,low_pschema,low_pentry]))))|exact .inr (.inr ⟨_,_,rfl,rfl⟩))) ?_));exact RenQL.nil))))|((with_reducible refine SubR.ism ?_);refine SubR.setm ?_ rfl rfl (by (first|exact ⟨rfl,rfl,rfl,rfl,rfl⟩|exact RenM.low (by first|assumption|exact hlowm _|exact hlowm _ _)))))))
  ·rintro i ⟨hi,hu⟩
   have hu2:=fun _:Unit=>hu
   have hul:=upTo_len hs64 i (at_+slot * 256) hu
   by_cases hlt:i < 256
   ·have hrd:=dc_Read D ((at_:Int)+(slot:Int) * 256+i) h hop 1000001 1000002 1000003 (by decide)
    have hsec:secD D (at_+slot * 256+i)=if (D.read ((at_:Int)+(slot:Int) * 256+i)).2=0 then some (D.read ((at_:Int)+(slot:Int) * 256+i)).1.1 else none:=by
     unfold secD;rw [show ((at_+slot * 256+i:Nat):Int)=(at_:Int)+(slot:Int) * 256+i by omega]
    clear hu
    generalize D.read ((at_:Int)+(slot:Int) * 256+i)=R at *
    obtain ⟨S,z⟩:=R
    have hSl:(((secL S).drop (0+0 * 1)).take ((64 - 0) * 1)).map PV.bare=secL S:=by
     rw [List.drop_zero,List.take_of_length_le (by rw [secL_len];omega),secL_bare]
    by_cases hz:z=0
    ·subst hz
     rw [if_pos rfl] at hsec
     have hsn:=upTo_snoc i (at_+slot * 256) (hu2 ()) hsec
     have hlS:=secL_len S
     have e6:PV.sl (64 * (i+1)) 1 ((upTo (secD D) (at_+slot * 256) (i+1)).map pbyte) (some 5) = .sl (64 * i+(64 - 0)) 1 ((upTo (secD D) (at_+slot * 256) i).map pbyte ++ secL S) (some 5):=by
      rw [hsn,List.map_append];rfl
     have hlow:∀o:Option TypeId,Low (.sl (64 * i+(64 - 0)) 1 ((upTo (secD D) (at_+slot * 256) i).map pbyte ++ secL S) o):=fun o=>.sl _ _ _ _ (fun c hc=>by
      rcases List.mem_append.1 hc with hc|hc
      ·obtain ⟨x,-,rfl⟩:=List.mem_map.1 hc;exact .val _
      ·exact secL_low S c hc)
     refine wk ?_
     refine PWops.appM typeTab_ok rfl (fun _ _=>rfl) rfl rfl rfl rfl rfl rfl rfl rfl (by show 0+0 * 1+(64 - 0) * 1≤(secL S).length;omega) hSl rfl (by omega) (by omega) ?_
     refine wk ?_
     refine loopP (i+1) ⟨by omega,fun j hj=>?_⟩ (by omega) ?_
     ·by_cases hji:j=i
      ·subst hji;rw [hsec];simp
      ·exact hu2 () j (by omega)
     try dsimp only
     rw [e6]
     (refine Sub.same ?_;(repeat (first|exact SubR.bot|((with_reducible refine SubR.isp ?_);refine SubR.put ?_ (by (first|exact .inl (ren_tC rfl)|exact .inl (.ptr _ _ rfl)|exact .inl (.msl _ _ _ _ rfl)|exact .inl (.mref _ rfl)|exact .inl (.low _ (by (first|exact low_mapI|exact low_mapS|exact low_mapB|assumption|exact hlow _|exact hlow _ _|exact Low.agg _ (low_map (fun _=>Low.val _) _)|(simp [low_pu32,low_pu64,low_val,low_nilsl,low_sl,low_ep,low_agg,low_tup,low_fn,low_pint,low_pstr,low_pbool,low_pints,low_pstrs,low_pbyte,low_pbytes,hlow];done)|(simp [low_pu32,low_pu64,low_val,low_nilsl,low_sl,low_ep,low_agg,low_tup,low_fn,low_pint,low_pstr,low_pbool,low_pints,low_pstrs,low_pbyte,low_pbytes];done)|simp [low_pu32,low_pu64,low_val,low_nilsl,low_sl,low_ep,low_agg,low_tup,low_fn,low_pint,low_pstr,low_pbool,low_pints,low_pstrs,low_pbyte,low_pbytes,low_pattrs,low_pdefs,low_pschema,low_pentry])))|exact .inr (.inl (.low _ (by (first|exact low_mapI|exact low_mapS|exact low_mapB|assumption|exact hlow _|exact hlow _ _|exact Low.agg _ (low_map (fun _=>Low.val _) _)|(simp [low_pu32,low_pu64,low_val,low_nilsl,low_sl,low_ep,low_agg,low_tup,low_fn,low_pint,low_pstr,low_pbool,low_pints,low_pstrs,low_pbyte,low_pbytes,hlow];done)|(simp [low_pu32,low_pu64,low_val,low_nilsl,low_sl,low_ep,low_agg,low_tup,low_fn,low_pint,low_pstr,low_pbool,low_pints,low_pstrs,low_pbyte,low_pbytes];done)|simp [low_pu32,low_pu64,low_val,low_nilsl,low_sl,low_ep,low_agg,low_tup,low_fn,low_pint,low_pstr,low_pbool,low_pints,low_pstrs,low_pbyte,low_pbytes,low_pattrs,low_pdefs,low_pschema,low_pentry]))))|exact .inr (.inr ⟨_,_,rfl,rfl⟩))))|((with_reducible refine SubR.isb ?_);refine SubR.setb ?_ rfl rfl (by (first|exact RenQL.low (by first|assumption|exact hlow _|exact hlow _ _|exact low_map (fun _=>Low.val _) _)|exact RenQL.lowE (by assumption) (low_map (fun _=>Low.val _) _)|((repeat (refine RenQL.cons (by (first|exact .inl (ren_tC rfl)|exact .inl (.ptr _ _ rfl)|exact .inl (.msl _ _ _ _ rfl)|exact .inl (.mref _ rfl)|exact .inl (.low _ (by (first|exact low_mapI|exact low_mapS|exact low_mapB|assumption|exact hlow _|exact hlow _ _|exact Low.agg _ (low_map (fun _=>Low.val _) _)|(simp [low_pu32,low_pu64,low_val,low_nilsl,low_sl,low_ep,low_agg,low_tup,low_fn,low_pint,low_pstr,low_pbool,low_pints,low_pstrs,low_pbyte,low_pbytes,hlow];done)|(simp [low_pu32,low_pu64,low_val,low_nilsl,low_sl,low_ep,low_agg,low_tup,low_fn,low_pint,low_pstr,low_pbool,low_pints,low_pstrs,low_pbyte,low_pbytes];done)|simp [low_pu32,low_pu64,low_val,low_nilsl,low_sl,low_ep,low_agg,low_tup,low_fn,low_pint,low_pstr,low_pbool,low_pints,low_pstrs,low_pbyte,low_pbytes,low_pattrs,low_pdefs,low_pschema,low_pentry])))|exact .inr (.inl (.low _ (by (first|exact low_mapI|exact low_mapS|exact low_mapB|assumption|exact hlow _|exact hlow _ _|exact Low.agg _ (low_map (fun _=>Low.val _) _)|(simp [low_pu32,low_pu64,low_val,low_nilsl,low_sl,low_ep,low_agg,low_tup,low_fn,low_pint,low_pstr,low_pbool,low_pints,low_pstrs,low_pbyte,low_pbytes,hlow];done)|(simp [low_pu32,low_pu64,low_val,low_nilsl,low_sl,low_ep,low_agg,low_tup,low_fn,low_pint,low_pstr,low_pbool,low_pints,low_pstrs,low_pbyte,low_pbytes];done)|simp [low_pu32,low_pu64,low_val,low_nilsl,low_sl,low_ep,low_agg,low_tup,low_fn,low_pint,low_pstr,low_pbool,low_pints,low_pstrs,low_pbyte,low_pbytes,low_pattrs,low_pdefs,low_pschema,low_pentry]))))|exact .inr (.inr ⟨_,_,rfl,rfl⟩))) ?_));exact RenQL.nil))))|((with_reducible refine SubR.ism ?_);refine SubR.setm ?_ rfl rfl (by (first|exact ⟨rfl,rfl,rfl,rfl,rfl⟩|exact RenM.low (by first|assumption|exact hlowm _|exact hlowm _ _)))))))
    ·rw [if_neg hz] at hsec
     have hst:=upTo_stop i 256 (at_+slot * 256) (hu2 ()) hsec hlt
     have e6:pbytes (upTo (secD D) (at_+slot * 256) 256) = .sl (64 * i) 1 ((upTo (secD D) (at_+slot * 256) i).map pbyte) none:=by
      rw [hst];unfold pbytes;rw [hul]
     refine wk ?_
     refine midP () trivial ?_
     rw [e6]
     (refine Sub.same ?_;(repeat (first|exact SubR.bot|((with_reducible refine SubR.isp ?_);refine SubR.put ?_ (by (first|exact .inl (ren_tC rfl)|exact .inl (.ptr _ _ rfl)|exact .inl (.msl _ _ _ _ rfl)|exact .inl (.mref _ rfl)|exact .inl (.low _ (by (first|exact low_mapI|exact low_mapS|exact low_mapB|assumption|exact hlow _|exact hlow _ _|exact Low.agg _ (low_map (fun _=>Low.val _) _)|(simp [low_pu32,low_pu64,low_val,low_nilsl,low_sl,low_ep,low_agg,low_tup,low_fn,low_pint,low_pstr,low_pbool,low_pints,low_pstrs,low_pbyte,low_pbytes,hlow];done)|(simp [low_pu32,low_pu64,low_val,low_nilsl,low_sl,low_ep,low_agg,low_tup,low_fn,low_pint,low_pstr,low_pbool,low_pints,low_pstrs,low_pbyte,low_pbytes];done)|simp [low_pu32,low_pu64,low_val,low_nilsl,low_sl,low_ep,low_agg,low_tup,low_fn,low_pint,low_pstr,low_pbool,low_pints,low_pstrs,low_pbyte,low_pbytes,low_pattrs,low_pdefs,low_pschema,low_pentry])))|exact .inr (.inl (.low _ (by (first|exact low_mapI|exact low_mapS|exact low_mapB|assumption|exact hlow _|exact hlow _ _|exact Low.agg _ (low_map (fun _=>Low.val _) _)|(simp [low_pu32,low_pu64,low_val,low_nilsl,low_sl,low_ep,low_agg,low_tup,low_fn,low_pint,low_pstr,low_pbool,low_pints,low_pstrs,low_pbyte,low_pbytes,hlow];done)|(simp [low_pu32,low_pu64,low_val,low_nilsl,low_sl,low_ep,low_agg,low_tup,low_fn,low_pint,low_pstr,low_pbool,low_pints,low_pstrs,low_pbyte,low_pbytes];done)|simp [low_pu32,low_pu64,low_val,low_nilsl,low_sl,low_ep,low_agg,low_tup,low_fn,low_pint,low_pstr,low_pbool,low_pints,low_pstrs,low_pbyte,low_pbytes,low_pattrs,low_pdefs,low_pschema,low_pentry]))))|exact .inr (.inr ⟨_,_,rfl,rfl⟩))))|((with_reducible refine SubR.isb ?_);refine SubR.setb ?_ rfl rfl (by (first|exact RenQL.low (by first|assumption|exact hlow _|exact hlow _ _|exact low_map (fun _=>Low.val _) _)|exact RenQL.lowE (by assumption) (low_map (fun _=>Low.val _) _)|((repeat (refine RenQL.cons (by (first|exact .inl (ren_tC rfl)|exact .inl (.ptr _ _ rfl)|exact .inl (.msl _ _ _ _ rfl)|exact .inl (.mref _ rfl)|exact .inl (.low _ (by (first|exact low_mapI|exact low_mapS|exact low_mapB|assumption|exact hlow _|exact hlow _ _|exact Low.agg _ (low_map (fun _=>Low.val _) _)|(simp [low_pu32,low_pu64,low_val,low_nilsl,low_sl,low_ep,low_agg,low_tup,low_fn,low_pint,low_pstr,low_pbool,low_pints,low_pstrs,low_pbyte,low_pbytes,hlow];done)|(simp [low_pu32,low_pu64,low_val,low_nilsl,low_sl,low_ep,low_agg,low_tup,low_fn,low_pint,low_pstr,low_pbool,low_pints,low_pstrs,low_pbyte,low_pbytes];done)|simp [low_pu32,low_pu64,low_val,low_nilsl,low_sl,low_ep,low_agg,low_tup,low_fn,low_pint,low_pstr,low_pbool,low_pints,low_pstrs,low_pbyte,low_pbytes,low_pattrs,low_pdefs,low_pschema,low_pentry])))|exact .inr (.inl (.low _ (by (first|exact low_mapI|exact low_mapS|exact low_mapB|assumption|exact hlow _|exact hlow _ _|exact Low.agg _ (low_map (fun _=>Low.val _) _)|(simp [low_pu32,low_pu64,low_val,low_nilsl,low_sl,low_ep,low_agg,low_tup,low_fn,low_pint,low_pstr,low_pbool,low_pints,low_pstrs,low_pbyte,low_pbytes,hlow];done)|(simp [low_pu32,low_pu64,low_val,low_nilsl,low_sl,low_ep,low_agg,low_tup,low_fn,low_pint,low_pstr,low_pbool,low_pints,low_pstrs,low_pbyte,low_pbytes];done)|simp [low_pu32,low_pu64,low_val,low_nilsl,low_sl,low_ep,low_agg,low_tup,low_fn,low_pint,low_pstr,low_pbool,low_pints,low_pstrs,low_pbyte,low_pbytes,low_pattrs,low_pdefs,low_pschema,low_pentry]))))|exact .inr (.inr ⟨_,_,rfl,rfl⟩))) ?_));exact RenQL.nil))))|((with_reducible refine SubR.ism ?_);refine SubR.setm ?_ rfl rfl (by (first|exact ⟨rfl,rfl,rfl,rfl,rfl⟩|exact RenM.low (by first|assumption|exact hlowm _|exact hlowm _ _)))))))
   ·obtain rfl:i=256:=by omega
    have e6:pbytes (upTo (secD D) (at_+slot * 256) 256) = .sl (64 * 256) 1 ((upTo (secD D) (at_+slot * 256) 256).map pbyte) none:=by
     unfold pbytes;rw [hul]
    refine wk ?_
    refine midP () trivial ?_
    rw [e6]
    (refine Sub.same ?_;(repeat (first|exact SubR.bot|((with_reducible refine SubR.isp ?_);refine SubR.put ?_ (by (first|exact .inl (ren_tC rfl)|exact .inl (.ptr _ _ rfl)|exact .inl (.msl _ _ _ _ rfl)|exact .inl (.mref _ rfl)|exact .inl (.low _ (by (first|exact low_mapI|exact low_mapS|exact low_mapB|assumption|exact hlow _|exact hlow _ _|exact Low.agg _ (low_map (fun _=>Low.val _) _)|(simp [low_pu32,low_pu64,low_val,low_nilsl,low_sl,low_ep,low_agg,low_tup,low_fn,low_pint,low_pstr,low_pbool,low_pints,low_pstrs,low_pbyte,low_pbytes,hlow];done)|(simp [low_pu32,low_pu64,low_val,low_nilsl,low_sl,low_ep,low_agg,low_tup,low_fn,low_pint,low_pstr,low_pbool,low_pints,low_pstrs,low_pbyte,low_pbytes];done)|simp [low_pu32,low_pu64,low_val,low_nilsl,low_sl,low_ep,low_agg,low_tup,low_fn,low_pint,low_pstr,low_pbool,low_pints,low_pstrs,low_pbyte,low_pbytes,low_pattrs,low_pdefs,low_pschema,low_pentry])))|exact .inr (.inl (.low _ (by (first|exact low_mapI|exact low_mapS|exact low_mapB|assumption|exact hlow _|exact hlow _ _|exact Low.agg _ (low_map (fun _=>Low.val _) _)|(simp [low_pu32,low_pu64,low_val,low_nilsl,low_sl,low_ep,low_agg,low_tup,low_fn,low_pint,low_pstr,low_pbool,low_pints,low_pstrs,low_pbyte,low_pbytes,hlow];done)|(simp [low_pu32,low_pu64,low_val,low_nilsl,low_sl,low_ep,low_agg,low_tup,low_fn,low_pint,low_pstr,low_pbool,low_pints,low_pstrs,low_pbyte,low_pbytes];done)|simp [low_pu32,low_pu64,low_val,low_nilsl,low_sl,low_ep,low_agg,low_tup,low_fn,low_pint,low_pstr,low_pbool,low_pints,low_pstrs,low_pbyte,low_pbytes,low_pattrs,low_pdefs,low_pschema,low_pentry]))))|exact .inr (.inr ⟨_,_,rfl,rfl⟩))))|((with_reducible refine SubR.isb ?_);refine SubR.setb ?_ rfl rfl (by (first|exact RenQL.low (by first|assumption|exact hlow _|exact hlow _ _|exact low_map (fun _=>Low.val _) _)|exact RenQL.lowE (by assumption) (low_map (fun _=>Low.val _) _)|((repeat (refine RenQL.cons (by (first|exact .inl (ren_tC rfl)|exact .inl (.ptr _ _ rfl)|exact .inl (.msl _ _ _ _ rfl)|exact .inl (.mref _ rfl)|exact .inl (.low _ (by (first|exact low_mapI|exact low_mapS|exact low_mapB|assumption|exact hlow _|exact hlow _ _|exact Low.agg _ (low_map (fun _=>Low.val _) _)|(simp [low_pu32,low_pu64,low_val,low_nilsl,low_sl,low_ep,low_agg,low_tup,low_fn,low_pint,low_pstr,low_pbool,low_pints,low_pstrs,low_pbyte,low_pbytes,hlow];done)|(simp [low_pu32,low_pu64,low_val,low_nilsl,low_sl,low_ep,low_agg,low_tup,low_fn,low_pint,low_pstr,low_pbool,low_pints,low_pstrs,low_pbyte,low_pbytes];done)|simp [low_pu32,low_pu64,low_val,low_nilsl,low_sl,low_ep,low_agg,low_tup,low_fn,low_pint,low_pstr,low_pbool,low_pints,low_pstrs,low_pbyte,low_pbytes,low_pattrs,low_pdefs,low_pschema,low_pentry])))|exact .inr (.inl (.low _ (by (first|exact low_mapI|exact low_mapS|exact low_mapB|assumption|exact hlow _|exact hlow _ _|exact Low.agg _ (low_map (fun _=>Low.val _) _)|(simp [low_pu32,low_pu64,low_val,low_nilsl,low_sl,low_ep,low_agg,low_tup,low_fn,low_pint,low_pstr,low_pbool,low_pints,low_pstrs,low_pbyte,low_pbytes,hlow];done)|(simp [low_pu32,low_pu64,low_val,low_nilsl,low_sl,low_ep,low_agg,low_tup,low_fn,low_pint,low_pstr,low_pbool,low_pints,low_pstrs,low_pbyte,low_pbytes];done)|simp [low_pu32,low_pu64,low_val,low_nilsl,low_sl,low_ep,low_agg,low_tup,low_fn,low_pint,low_pstr,low_pbool,low_pints,low_pstrs,low_pbyte,low_pbytes,low_pattrs,low_pdefs,low_pschema,low_pentry]))))|exact .inr (.inr ⟨_,_,rfl,rfl⟩))) ?_));exact RenQL.nil))))|((with_reducible refine SubR.ism ?_);refine SubR.setm ?_ rfl rfl (by (first|exact ⟨rfl,rfl,rfl,rfl,rfl⟩|exact RenM.low (by first|assumption|exact hlowm _|exact hlowm _ _)))))))
 ·rintro - -
  have hmax:=upTo_max hs64 256 (at_+slot * 256)
  have hbyt:Byte (upTo (secD D) (at_+slot * 256) 256):=Byte.of (upTo_byte hsb 256 (at_+slot * 256))
  unfold readT readM
  generalize upTo (secD D) (at_+slot * 256) 256=b at *
  by_cases g1:b.length < 16
  ·rw [if_pos g1]
   refine wk ?_
   exact RetH.mk (r':=.tup [.agg nilM,pbool false]) rfl weak_readN ⟨⟨_,rfl,WeakL.refl _⟩,⟨_,rfl,WeakL.refl _⟩,trivial⟩ ⟨⟨rfl,rfl⟩,trivial⟩
  rw [if_neg g1]
  have hgb:=pcGetBytes (b.drop 16) (hbyt.drop 16)
  have hgk:=getS_back (b.drop 16)
  obtain ⟨s,u,er,h1⟩:∃s u er,getS (b.drop 16)=(s,u,er):=⟨_,_,_,rfl⟩
  rw [h1] at hgb
  rw [h1]
  simp only at hgb ⊢
  refine wk ?_
  by_cases g2:er=0
  case neg=>
   rw [if_pos g2]
   refine wk ?_
   exact RetH.mk (r':=.tup [.agg nilM,pbool false]) rfl weak_readN ⟨⟨_,rfl,WeakL.refl _⟩,⟨_,rfl,WeakL.refl _⟩,trivial⟩ ⟨⟨rfl,rfl⟩,trivial⟩
  subst g2
  rw [if_neg (by simp)]
  obtain ⟨k1,k2,k3⟩:=hgk s u (hbyt.drop 16).all h1
  have hsz:s.size≤100000:=by
   have:=congrArg List.length k1
   rw [strB,List.length_append,bytesL_len,List.length_take,List.length_drop] at this
   omega
  clear hgk h1 k1 k2 k3
  have hof:=pw_of 32 [s] (by simp) (by intro x hx;simp only [List.mem_cons,List.not_mem_nil,or_false] at hx;subst hx;omega)
  have hof2:ofS glob0 32 [s]=hfT s:=rfl
  rw [hof2] at hof
  have h16:=hfT_len s
  have hb16:=hfT_byte s
  clear hof2
  generalize hfT s=H at *
  refine wg ?_
  refine PW.region typeTab_ok (by kernel_rfl) ?_
  refine wg ?_
  refine PW.freezeP (id:=14003) (s:=13) (off:=0) (σ':=(((((((bot.setb 1000001 (dB 1000002 1000003 D)).setb 1000002 (dC D)).setm 1000003 (dM D)).setb 0 nilM).put 4 (.ptr 0 0)).put 6 (pbytes b)).put 10 (pstr s))) rfl rfl (low_map (fun _=>Low.val _) _) (by exact sbr0) rfl ?_
  refine PW.draw typeTab_ok (by kernel_rfl) (by kernel_rfl) (by kernel_rfl) ?_
  refine PWops.slcE rfl rfl rfl rfl rfl rfl rfl (by rw [List.length_map,h16]) ⟨by decide,by decide⟩ ?_
  have hbe:=pw_bytesEqual H (b.take 16) (Byte.of hb16) (Byte.of fun c hc=>hbyt.all c (List.mem_of_mem_take hc))
  unfold pbytes at hbe
  rw [h16] at hbe
  by_cases g3:H=b.take 16
  case neg=>
   rw [decide_eq_false g3] at hbe
   rw [if_pos g3]
   clear g3
   refine wk ?_
   exact RetH.mk (r':=.tup [.agg nilM,pbool false]) rfl weak_readN ⟨⟨_,rfl,WeakL.refl _⟩,⟨_,rfl,WeakL.refl _⟩,trivial⟩ ⟨⟨rfl,rfl⟩,trivial⟩
  rw [decide_eq_true g3] at hbe
  rw [if_neg (by simp [g3])]
  have hsb2:∀c∈bytesL s,0≤c∧c < 256:=bytesL_byte s
  have hdec:=pw_mDecode (bytesL s) (Byte.of hsb2) (by rw [bytesL_len];omega)
  rw [decA_eq hsb2] at hdec
  clear g3 hsb2
  have hsl:=bytesL_len s
  have hsc:=strC_eq s
  have hzz:=low_pmanL zeroM
  generalize bytesL s=t at *
  cases ho:decM t with
  |none=>
   rw [ho] at hdec
   clear ho
   refine wk ?_
   refine PWops.bytS rfl rfl rfl rfl rfl rfl rfl rfl rfl rfl rfl rfl (by omega) hsl.symm hsc ?_
   refine wk ?_
   exact RetH.mk (r':=readV none) rfl (Weak.refl _) ⟨⟨_,rfl,WeakL.refl _⟩,⟨_,rfl,WeakL.refl _⟩,trivial⟩ ⟨⟨rfl,rfl⟩,trivial⟩
  |some x=>
   rw [ho] at hdec
   clear ho
   have hxx:=low_pmanL x
   refine wk ?_
   refine PWops.bytS rfl rfl rfl rfl rfl rfl rfl rfl rfl rfl rfl rfl (by omega) hsl.symm hsc ?_
   refine wk ?_
   exact RetH.mk (r':=readV (some x)) rfl (Weak.refl _) ⟨⟨_,rfl,WeakL.refl _⟩,⟨_,rfl,WeakL.refl _⟩,trivial⟩ ⟨⟨rfl,rfl⟩,trivial⟩
theorem th_of_pw {f:FuncId} {fn:Func} {c:Code} {args:List PV} {D D' : DM} {r:PV} {at_:Nat} {now now' : PMan} (hf:Tryz.prog.funcs[f]? = some fn) (hb:fn.body=some c) (hcb:callB Tryz.prog f=true) (hlow:∀p∈args,LowI (fun i=>i ∈ [1000004,1000001,1000002,1000003]) p) (hno:∀p∈args,p.ownB=false) (hn:args.length≤fn.ntmps) (hr:LowI (fun i=>i ∈ [1000004,1000001,1000002,1000003]) r)
  (h:PW Tryz.prog fn.ntmps c (RetH typeTab fn.results.toList r (tG 1000004 1000001 1000002 1000003 at_ now' D') (dMs 1000003 D')) (initH args (tG 1000004 1000001 1000002 1000003 at_ now D) (dMs 1000003 D))):HCalls Tryz.prog f args (tG 1000004 1000001 1000002 1000003 at_ now D) (dMs 1000003 D) r (tG 1000004 1000001 1000002 1000003 at_ now' D') (dMs 1000003 D'):=by
 have r3:∀now D,ResIds (tG 1000004 1000001 1000002 1000003 at_ now D) (dMs 1000003 D) = [1000004,1000001,1000002,1000003]:=fun _ _=>rfl
 refine hcalls_of_pw typeTab_ok hf hb hcb hno hn (by rw [r3];decide) (by rw [r3];decide) ⟨by rw [r3];exact hlow,fun x hx=>?_,fun x hx=>?_,by rw [r3];exact hr,fun x hx=>?_,fun x hx=>?_,by simp [tG,dG],by simp [dMs]⟩ h
 ·simp only [tG,dG,List.mem_cons,List.not_mem_nil,or_false] at hx
  rcases hx with rfl|rfl|rfl
  ·exact tC_lowI (by rw [r3];decide) at_ now
  ·exact dB_lowI (by rw [r3];decide) (by rw [r3];decide) D
  ·exact fun p hp=>(dC_low D p hp).lowI
 ·simp only [dMs,List.mem_cons,List.not_mem_nil,or_false] at hx
  subst hx
  exact fun e he=>⟨(dM_low D e he).1.lowI,(dM_low D e he).2.lowI⟩
 ·simp only [tG,dG,List.mem_cons,List.not_mem_nil,or_false] at hx
  rcases hx with rfl|rfl|rfl
  ·exact tC_lowI (by rw [r3];decide) at_ now'
  ·exact dB_lowI (by rw [r3];decide) (by rw [r3];decide) D'
  ·exact fun p hp=>(dC_low D' p hp).lowI
 ·simp only [dMs,List.mem_cons,List.not_mem_nil,or_false] at hx
  subst hx
  exact fun e he=>⟨(dM_low D' e he).1.lowI,(dM_low D' e he).2.lowI⟩
set_option maxRecDepth 10000 in
set_option maxHeartbeats 2000000 in
theorem tc_readB (D:DM) (at_ slot:Nat) (now:PMan) (h:D.cells.length≤1000000000) (hop:∀e∈D.op,e.2.2.length≤1000000000) (ha:at_≤1000000000) (hs:slot≤4):HCalls Tryz.prog 81 [.ptr 1000004 0,pint slot] (tG 1000004 1000001 1000002 1000003 at_ now D) (dMs 1000003 D) (readV (readT D at_ slot)) (tG 1000004 1000001 1000002 1000003 at_ now D) (dMs 1000003 D):=by
 have c1:=dC_low D
 have c2:=dM_low D
 have hln:=low_nilM
 have hlr:Low (prefs now.refs):=(low_prefs _).2 trivial
 have hlt:Low (pints now.notes):=(low_pints _).2 trivial
 refine th_of_pw Tryz.func81 rfl rfl (by intro p hp;rcases List.mem_cons.1 hp with rfl|hp;exact .ptr _ _ (by simp);rcases List.mem_cons.1 hp with rfl|hp;exact .val _;cases hp) (by simp [pint,PV.ownB]) (Nat.le_of_ble_eq_true rfl) (low_readV _).lowI ?_
 have hs64:=secD_len (D:=D)
 have hsb:=secD_byte (D:=D)
 refine wk ?_
 refine PW.cutB (fun _:Unit=>((((((((bot.setb 1000004 (tC 1000001 at_ now)).setb 1000001 (dB 1000002 1000003 D)).setb 1000002 (dC D)).setm 1000003 (dM D)).setb 0 nilM).put 4 (.ptr 0 0)).put 6 (pbytes (upTo (secD D) (at_+slot * 256) 256))))) (fun _=>True) ?_ ?_
 ·refine PW.loop (fun i:Nat=>((((((((((bot.setb 1000004 (tC 1000001 at_ now)).setb 1000001 (dB 1000002 1000003 D)).setb 1000002 (dC D)).setm 1000003 (dM D)).setb 0 nilM).put 0 (.ptr 1000004 0)).put 1 (pint slot)).put 4 (.ptr 0 0)).put 6 (.sl (64 * i) 1 ((upTo (secD D) (at_+slot * 256) i).map pbyte) (some 5)))).put 15 (pint i)) (fun i=>i≤256∧∀j,j < i→secD D (at_+slot * 256+j)≠none) (fun i=>256 - i) 0 ⟨by omega,fun j hj=>by omega⟩ ?_ ?_
  ·(refine Sub.same ?_;(repeat (first|exact SubR.bot|((with_reducible refine SubR.isp ?_);refine SubR.put ?_ (by (first|exact .inl (ren_tC rfl)|exact .inl (.ptr _ _ rfl)|exact .inl (.msl _ _ _ _ rfl)|exact .inl (.mref _ rfl)|exact .inl (.low _ (by (first|exact low_mapI|exact low_mapS|exact low_mapB|assumption|exact hlow _|exact hlow _ _|exact Low.agg _ (low_map (fun _=>Low.val _) _)|(simp [low_pu32,low_pu64,low_val,low_nilsl,low_sl,low_ep,low_agg,low_tup,low_fn,low_pint,low_pstr,low_pbool,low_pints,low_pstrs,low_pbyte,low_pbytes,hlow];done)|(simp [low_pu32,low_pu64,low_val,low_nilsl,low_sl,low_ep,low_agg,low_tup,low_fn,low_pint,low_pstr,low_pbool,low_pints,low_pstrs,low_pbyte,low_pbytes];done)|simp [low_pu32,low_pu64,low_val,low_nilsl,low_sl,low_ep,low_agg,low_tup,low_fn,low_pint,low_pstr,low_pbool,low_pints,low_pstrs,low_pbyte,low_pbytes,low_pattrs,low_pdefs,low_pschema,low_pentry])))|exact .inr (.inl (.low _ (by (first|exact low_mapI|exact low_mapS|exact low_mapB|assumption|exact hlow _|exact hlow _ _|exact Low.agg _ (low_map (fun _=>Low.val _) _)|(simp [low_pu32,low_pu64,low_val,low_nilsl,low_sl,low_ep,low_agg,low_tup,low_fn,low_pint,low_pstr,low_pbool,low_pints,low_pstrs,low_pbyte,low_pbytes,hlow];done)|(simp [low_pu32,low_pu64,low_val,low_nilsl,low_sl,low_ep,low_agg,low_tup,low_fn,low_pint,low_pstr,low_pbool,low_pints,low_pstrs,low_pbyte,low_pbytes];done)|simp [low_pu32,low_pu64,low_val,low_nilsl,low_sl,low_ep,low_agg,low_tup,low_fn,low_pint,low_pstr,low_pbool,low_pints,low_pstrs,low_pbyte,low_pbytes,low_pattrs,low_pdefs,low_pschema,low_pentry]))))|exact .inr (.inr ⟨_,_,rfl,rfl⟩))))|((with_reducible refine SubR.isb ?_);refine SubR.setb ?_ rfl rfl (by (first|exact RenQL.low (by first|assumption|exact hlow _|exact hlow _ _|exact low_map (fun _=>Low.val _) _)|exact RenQL.lowE (by assumption) (low_map (fun _=>Low.val _) _)|((repeat (refine RenQL.cons (by (first|exact .inl (ren_tC rfl)|exact .inl (.ptr _ _ rfl)|exact .inl (.msl _ _ _ _ rfl)|exact .inl (.mref _ rfl)|exact .inl (.low _ (by (first|exact low_mapI|exact low_mapS|exact low_mapB|assumption|exact hlow _|exact hlow _ _|exact Low.agg _ (low_map (fun _=>Low.val _) _)|(simp [low_pu32,low_pu64,low_val,low_nilsl,low_sl,low_ep,low_agg,low_tup,low_fn,low_pint,low_pstr,low_pbool,low_pints,low_pstrs,low_pbyte,low_pbytes,hlow];done)|(simp [low_pu32,low_pu64,low_val,low_nilsl,low_sl,low_ep,low_agg,low_tup,low_fn,low_pint,low_pstr,low_pbool,low_pints,low_pstrs,low_pbyte,low_pbytes];done)|simp [low_pu32,low_pu64,low_val,low_nilsl,low_sl,low_ep,low_agg,low_tup,low_fn,low_pint,low_pstr,low_pbool,low_pints,low_pstrs,low_pbyte,low_pbytes,low_pattrs,low_pdefs,low_pschema,low_pentry])))|exact .inr (.inl (.low _ (by (first|exact low_mapI|exact low_mapS|exact low_mapB|assumption|exact hlow _|exact hlow _ _|exact Low.agg _ (low_map (fun _=>Low.val _) _)|(simp [low_pu32,low_pu64,low_val,low_nilsl,low_sl,low_ep,low_agg,low_tup,low_fn,low_pint,low_pstr,low_pbool,low_pints,low_pstrs,low_pbyte,low_pbytes,hlow];done)|(simp [low_pu32,low_pu64,low_val,low_nilsl,low_sl,low_ep,low_agg,low_tup,low_fn,low_pint,low_pstr,low_pbool,low_pints,low_pstrs,low_pbyte,low_pbytes];done)|simp [low_pu32,low_pu64,low_val,low_nilsl,low_sl,low_ep,low_agg,low_tup,low_fn,low_pint,low_pstr,low_pbool,low_pints,low_pstrs,low_pbyte,low_pbytes,low_pattrs,low_pdefs,low_pschema,low_pentry]))))|exact .inr (.inr ⟨_,_,rfl,rfl⟩))) ?_));exact RenQL.nil))))|((with_reducible refine SubR.ism ?_);refine SubR.setm ?_ rfl rfl (by (first|exact ⟨rfl,rfl,rfl,rfl,rfl⟩|exact RenM.low (by first|assumption|exact hlowm _|exact hlowm _ _)))))))
  ·rintro i ⟨hi,hu⟩
   have hu2:=fun _:Unit=>hu
   have hul:=upTo_len hs64 i (at_+slot * 256) hu
   by_cases hlt:i < 256
   ·have hrd:=dc_Read D ((at_:Int)+(slot:Int) * 256+i) h hop 1000001 1000002 1000003 (by decide)
    have hsec:secD D (at_+slot * 256+i)=if (D.read ((at_:Int)+(slot:Int) * 256+i)).2=0 then some (D.read ((at_:Int)+(slot:Int) * 256+i)).1.1 else none:=by
     unfold secD;rw [show ((at_+slot * 256+i:Nat):Int)=(at_:Int)+(slot:Int) * 256+i by omega]
    clear hu
    generalize D.read ((at_:Int)+(slot:Int) * 256+i)=R at *
    obtain ⟨S,z⟩:=R
    have hSl:(((secL S).drop (0+0 * 1)).take ((64 - 0) * 1)).map PV.bare=secL S:=by
     rw [List.drop_zero,List.take_of_length_le (by rw [secL_len];omega),secL_bare]
    by_cases hz:z=0
    ·subst hz
     rw [if_pos rfl] at hsec
     have hsn:=upTo_snoc i (at_+slot * 256) (hu2 ()) hsec
     have hlS:=secL_len S
     have e6:PV.sl (64 * (i+1)) 1 ((upTo (secD D) (at_+slot * 256) (i+1)).map pbyte) (some 5) = .sl (64 * i+(64 - 0)) 1 ((upTo (secD D) (at_+slot * 256) i).map pbyte ++ secL S) (some 5):=by
      rw [hsn,List.map_append];rfl
     have hlow:∀o:Option TypeId,Low (.sl (64 * i+(64 - 0)) 1 ((upTo (secD D) (at_+slot * 256) i).map pbyte ++ secL S) o):=fun o=>.sl _ _ _ _ (fun c hc=>by
      rcases List.mem_append.1 hc with hc|hc
      ·obtain ⟨x,-,rfl⟩:=List.mem_map.1 hc;exact .val _
      ·exact secL_low S c hc)
     refine wk ?_
     refine PWops.appM typeTab_ok rfl (fun _ _=>rfl) rfl rfl rfl rfl rfl rfl rfl rfl (by show 0+0 * 1+(64 - 0) * 1≤(secL S).length;omega) hSl rfl (by omega) (by omega) ?_
     refine wk ?_
     refine loopP (i+1) ⟨by omega,fun j hj=>?_⟩ (by omega) ?_
     ·by_cases hji:j=i
      ·subst hji;rw [hsec];simp
      ·exact hu2 () j (by omega)
     try dsimp only
     rw [e6]
     (refine Sub.same ?_;(repeat (first|exact SubR.bot|((with_reducible refine SubR.isp ?_);refine SubR.put ?_ (by (first|exact .inl (ren_tC rfl)|exact .inl (.ptr _ _ rfl)|exact .inl (.msl _ _ _ _ rfl)|exact .inl (.mref _ rfl)|exact .inl (.low _ (by (first|exact low_mapI|exact low_mapS|exact low_mapB|assumption|exact hlow _|exact hlow _ _|exact Low.agg _ (low_map (fun _=>Low.val _) _)|(simp [low_pu32,low_pu64,low_val,low_nilsl,low_sl,low_ep,low_agg,low_tup,low_fn,low_pint,low_pstr,low_pbool,low_pints,low_pstrs,low_pbyte,low_pbytes,hlow];done)|(simp [low_pu32,low_pu64,low_val,low_nilsl,low_sl,low_ep,low_agg,low_tup,low_fn,low_pint,low_pstr,low_pbool,low_pints,low_pstrs,low_pbyte,low_pbytes];done)|simp [low_pu32,low_pu64,low_val,low_nilsl,low_sl,low_ep,low_agg,low_tup,low_fn,low_pint,low_pstr,low_pbool,low_pints,low_pstrs,low_pbyte,low_pbytes,low_pattrs,low_pdefs,low_pschema,low_pentry])))|exact .inr (.inl (.low _ (by (first|exact low_mapI|exact low_mapS|exact low_mapB|assumption|exact hlow _|exact hlow _ _|exact Low.agg _ (low_map (fun _=>Low.val _) _)|(simp [low_pu32,low_pu64,low_val,low_nilsl,low_sl,low_ep,low_agg,low_tup,low_fn,low_pint,low_pstr,low_pbool,low_pints,low_pstrs,low_pbyte,low_pbytes,hlow];done)|(simp [low_pu32,low_pu64,low_val,low_nilsl,low_sl,low_ep,low_agg,low_tup,low_fn,low_pint,low_pstr,low_pbool,low_pints,low_pstrs,low_pbyte,low_pbytes];done)|simp [low_pu32,low_pu64,low_val,low_nilsl,low_sl,low_ep,low_agg,low_tup,low_fn,low_pint,low_pstr,low_pbool,low_pints,low_pstrs,low_pbyte,low_pbytes,low_pattrs,low_pdefs,low_pschema,low_pentry]))))|exact .inr (.inr ⟨_,_,rfl,rfl⟩))))|((with_reducible refine SubR.isb ?_);refine SubR.setb ?_ rfl rfl (by (first|exact RenQL.low (by first|assumption|exact hlow _|exact hlow _ _|exact low_map (fun _=>Low.val _) _)|exact RenQL.lowE (by assumption) (low_map (fun _=>Low.val _) _)|((repeat (refine RenQL.cons (by (first|exact .inl (ren_tC rfl)|exact .inl (.ptr _ _ rfl)|exact .inl (.msl _ _ _ _ rfl)|exact .inl (.mref _ rfl)|exact .inl (.low _ (by (first|exact low_mapI|exact low_mapS|exact low_mapB|assumption|exact hlow _|exact hlow _ _|exact Low.agg _ (low_map (fun _=>Low.val _) _)|(simp [low_pu32,low_pu64,low_val,low_nilsl,low_sl,low_ep,low_agg,low_tup,low_fn,low_pint,low_pstr,low_pbool,low_pints,low_pstrs,low_pbyte,low_pbytes,hlow];done)|(simp [low_pu32,low_pu64,low_val,low_nilsl,low_sl,low_ep,low_agg,low_tup,low_fn,low_pint,low_pstr,low_pbool,low_pints,low_pstrs,low_pbyte,low_pbytes];done)|simp [low_pu32,low_pu64,low_val,low_nilsl,low_sl,low_ep,low_agg,low_tup,low_fn,low_pint,low_pstr,low_pbool,low_pints,low_pstrs,low_pbyte,low_pbytes,low_pattrs,low_pdefs,low_pschema,low_pentry])))|exact .inr (.inl (.low _ (by (first|exact low_mapI|exact low_mapS|exact low_mapB|assumption|exact hlow _|exact hlow _ _|exact Low.agg _ (low_map (fun _=>Low.val _) _)|(simp [low_pu32,low_pu64,low_val,low_nilsl,low_sl,low_ep,low_agg,low_tup,low_fn,low_pint,low_pstr,low_pbool,low_pints,low_pstrs,low_pbyte,low_pbytes,hlow];done)|(simp [low_pu32,low_pu64,low_val,low_nilsl,low_sl,low_ep,low_agg,low_tup,low_fn,low_pint,low_pstr,low_pbool,low_pints,low_pstrs,low_pbyte,low_pbytes];done)|simp [low_pu32,low_pu64,low_val,low_nilsl,low_sl,low_ep,low_agg,low_tup,low_fn,low_pint,low_pstr,low_pbool,low_pints,low_pstrs,low_pbyte,low_pbytes,low_pattrs,low_pdefs,low_pschema,low_pentry]))))|exact .inr (.inr ⟨_,_,rfl,rfl⟩))) ?_));exact RenQL.nil))))|((with_reducible refine SubR.ism ?_);refine SubR.setm ?_ rfl rfl (by (first|exact ⟨rfl,rfl,rfl,rfl,rfl⟩|exact RenM.low (by first|assumption|exact hlowm _|exact hlowm _ _)))))))
    ·rw [if_neg hz] at hsec
     have hst:=upTo_stop i 256 (at_+slot * 256) (hu2 ()) hsec hlt
     have e6:pbytes (upTo (secD D) (at_+slot * 256) 256) = .sl (64 * i) 1 ((upTo (secD D) (at_+slot * 256) i).map pbyte) none:=by
      rw [hst];unfold pbytes;rw [hul]
     refine wk ?_
     refine midP () trivial ?_
     rw [e6]
     (refine Sub.same ?_;(repeat (first|exact SubR.bot|((with_reducible refine SubR.isp ?_);refine SubR.put ?_ (by (first|exact .inl (ren_tC rfl)|exact .inl (.ptr _ _ rfl)|exact .inl (.msl _ _ _ _ rfl)|exact .inl (.mref _ rfl)|exact .inl (.low _ (by (first|exact low_mapI|exact low_mapS|exact low_mapB|assumption|exact hlow _|exact hlow _ _|exact Low.agg _ (low_map (fun _=>Low.val _) _)|(simp [low_pu32,low_pu64,low_val,low_nilsl,low_sl,low_ep,low_agg,low_tup,low_fn,low_pint,low_pstr,low_pbool,low_pints,low_pstrs,low_pbyte,low_pbytes,hlow];done)|(simp [low_pu32,low_pu64,low_val,low_nilsl,low_sl,low_ep,low_agg,low_tup,low_fn,low_pint,low_pstr,low_pbool,low_pints,low_pstrs,low_pbyte,low_pbytes];done)|simp [low_pu32,low_pu64,low_val,low_nilsl,low_sl,low_ep,low_agg,low_tup,low_fn,low_pint,low_pstr,low_pbool,low_pints,low_pstrs,low_pbyte,low_pbytes,low_pattrs,low_pdefs,low_pschema,low_pentry])))|exact .inr (.inl (.low _ (by (first|exact low_mapI|exact low_mapS|exact low_mapB|assumption|exact hlow _|exact hlow _ _|exact Low.agg _ (low_map (fun _=>Low.val _) _)|(simp [low_pu32,low_pu64,low_val,low_nilsl,low_sl,low_ep,low_agg,low_tup,low_fn,low_pint,low_pstr,low_pbool,low_pints,low_pstrs,low_pbyte,low_pbytes,hlow];done)|(simp [low_pu32,low_pu64,low_val,low_nilsl,low_sl,low_ep,low_agg,low_tup,low_fn,low_pint,low_pstr,low_pbool,low_pints,low_pstrs,low_pbyte,low_pbytes];done)|simp [low_pu32,low_pu64,low_val,low_nilsl,low_sl,low_ep,low_agg,low_tup,low_fn,low_pint,low_pstr,low_pbool,low_pints,low_pstrs,low_pbyte,low_pbytes,low_pattrs,low_pdefs,low_pschema,low_pentry]))))|exact .inr (.inr ⟨_,_,rfl,rfl⟩))))|((with_reducible refine SubR.isb ?_);refine SubR.setb ?_ rfl rfl (by (first|exact RenQL.low (by first|assumption|exact hlow _|exact hlow _ _|exact low_map (fun _=>Low.val _) _)|exact RenQL.lowE (by assumption) (low_map (fun _=>Low.val _) _)|((repeat (refine RenQL.cons (by (first|exact .inl (ren_tC rfl)|exact .inl (.ptr _ _ rfl)|exact .inl (.msl _ _ _ _ rfl)|exact .inl (.mref _ rfl)|exact .inl (.low _ (by (first|exact low_mapI|exact low_mapS|exact low_mapB|assumption|exact hlow _|exact hlow _ _|exact Low.agg _ (low_map (fun _=>Low.val _) _)|(simp [low_pu32,low_pu64,low_val,low_nilsl,low_sl,low_ep,low_agg,low_tup,low_fn,low_pint,low_pstr,low_pbool,low_pints,low_pstrs,low_pbyte,low_pbytes,hlow];done)|(simp [low_pu32,low_pu64,low_val,low_nilsl,low_sl,low_ep,low_agg,low_tup,low_fn,low_pint,low_pstr,low_pbool,low_pints,low_pstrs,low_pbyte,low_pbytes];done)|simp [low_pu32,low_pu64,low_val,low_nilsl,low_sl,low_ep,low_agg,low_tup,low_fn,low_pint,low_pstr,low_pbool,low_pints,low_pstrs,low_pbyte,low_pbytes,low_pattrs,low_pdefs,low_pschema,low_pentry])))|exact .inr (.inl (.low _ (by (first|exact low_mapI|exact low_mapS|exact low_mapB|assumption|exact hlow _|exact hlow _ _|exact Low.agg _ (low_map (fun _=>Low.val _) _)|(simp [low_pu32,low_pu64,low_val,low_nilsl,low_sl,low_ep,low_agg,low_tup,low_fn,low_pint,low_pstr,low_pbool,low_pints,low_pstrs,low_pbyte,low_pbytes,hlow];done)|(simp [low_pu32,low_pu64,low_val,low_nilsl,low_sl,low_ep,low_agg,low_tup,low_fn,low_pint,low_pstr,low_pbool,low_pints,low_pstrs,low_pbyte,low_pbytes];done)|simp [low_pu32,low_pu64,low_val,low_nilsl,low_sl,low_ep,low_agg,low_tup,low_fn,low_pint,low_pstr,low_pbool,low_pints,low_pstrs,low_pbyte,low_pbytes,low_pattrs,low_pdefs,low_pschema,low_pentry]))))|exact .inr (.inr ⟨_,_,rfl,rfl⟩))) ?_));exact RenQL.nil))))|((with_reducible refine SubR.ism ?_);refine SubR.setm ?_ rfl rfl (by (first|exact ⟨rfl,rfl,rfl,rfl,rfl⟩|exact RenM.low (by first|assumption|exact hlowm _|exact hlowm _ _)))))))
   ·obtain rfl:i=256:=by omega
    have e6:pbytes (upTo (secD D) (at_+slot * 256) 256) = .sl (64 * 256) 1 ((upTo (secD D) (at_+slot * 256) 256).map pbyte) none:=by
     unfold pbytes;rw [hul]
    refine wk ?_
    refine midP () trivial ?_
    rw [e6]
    (refine Sub.same ?_;(repeat (first|exact SubR.bot|((with_reducible refine SubR.isp ?_);refine SubR.put ?_ (by (first|exact .inl (ren_tC rfl)|exact .inl (.ptr _ _ rfl)|exact .inl (.msl _ _ _ _ rfl)|exact .inl (.mref _ rfl)|exact .inl (.low _ (by (first|exact low_mapI|exact low_mapS|exact low_mapB|assumption|exact hlow _|exact hlow _ _|exact Low.agg _ (low_map (fun _=>Low.val _) _)|(simp [low_pu32,low_pu64,low_val,low_nilsl,low_sl,low_ep,low_agg,low_tup,low_fn,low_pint,low_pstr,low_pbool,low_pints,low_pstrs,low_pbyte,low_pbytes,hlow];done)|(simp [low_pu32,low_pu64,low_val,low_nilsl,low_sl,low_ep,low_agg,low_tup,low_fn,low_pint,low_pstr,low_pbool,low_pints,low_pstrs,low_pbyte,low_pbytes];done)|simp [low_pu32,low_pu64,low_val,low_nilsl,low_sl,low_ep,low_agg,low_tup,low_fn,low_pint,low_pstr,low_pbool,low_pints,low_pstrs,low_pbyte,low_pbytes,low_pattrs,low_pdefs,low_pschema,low_pentry])))|exact .inr (.inl (.low _ (by (first|exact low_mapI|exact low_mapS|exact low_mapB|assumption|exact hlow _|exact hlow _ _|exact Low.agg _ (low_map (fun _=>Low.val _) _)|(simp [low_pu32,low_pu64,low_val,low_nilsl,low_sl,low_ep,low_agg,low_tup,low_fn,low_pint,low_pstr,low_pbool,low_pints,low_pstrs,low_pbyte,low_pbytes,hlow];done)|(simp [low_pu32,low_pu64,low_val,low_nilsl,low_sl,low_ep,low_agg,low_tup,low_fn,low_pint,low_pstr,low_pbool,low_pints,low_pstrs,low_pbyte,low_pbytes];done)|simp [low_pu32,low_pu64,low_val,low_nilsl,low_sl,low_ep,low_agg,low_tup,low_fn,low_pint,low_pstr,low_pbool,low_pints,low_pstrs,low_pbyte,low_pbytes,low_pattrs,low_pdefs,low_pschema,low_pentry]))))|exact .inr (.inr ⟨_,_,rfl,rfl⟩))))|((with_reducible refine SubR.isb ?_);refine SubR.setb ?_ rfl rfl (by (first|exact RenQL.low (by first|assumption|exact hlow _|exact hlow _ _|exact low_map (fun _=>Low.val _) _)|exact RenQL.lowE (by assumption) (low_map (fun _=>Low.val _) _)|((repeat (refine RenQL.cons (by (first|exact .inl (ren_tC rfl)|exact .inl (.ptr _ _ rfl)|exact .inl (.msl _ _ _ _ rfl)|exact .inl (.mref _ rfl)|exact .inl (.low _ (by (first|exact low_mapI|exact low_mapS|exact low_mapB|assumption|exact hlow _|exact hlow _ _|exact Low.agg _ (low_map (fun _=>Low.val _) _)|(simp [low_pu32,low_pu64,low_val,low_nilsl,low_sl,low_ep,low_agg,low_tup,low_fn,low_pint,low_pstr,low_pbool,low_pints,low_pstrs,low_pbyte,low_pbytes,hlow];done)|(simp [low_pu32,low_pu64,low_val,low_nilsl,low_sl,low_ep,low_agg,low_tup,low_fn,low_pint,low_pstr,low_pbool,low_pints,low_pstrs,low_pbyte,low_pbytes];done)|simp [low_pu32,low_pu64,low_val,low_nilsl,low_sl,low_ep,low_agg,low_tup,low_fn,low_pint,low_pstr,low_pbool,low_pints,low_pstrs,low_pbyte,low_pbytes,low_pattrs,low_pdefs,low_pschema,low_pentry])))|exact .inr (.inl (.low _ (by (first|exact low_mapI|exact low_mapS|exact low_mapB|assumption|exact hlow _|exact hlow _ _|exact Low.agg _ (low_map (fun _=>Low.val _) _)|(simp [low_pu32,low_pu64,low_val,low_nilsl,low_sl,low_ep,low_agg,low_tup,low_fn,low_pint,low_pstr,low_pbool,low_pints,low_pstrs,low_pbyte,low_pbytes,hlow];done)|(simp [low_pu32,low_pu64,low_val,low_nilsl,low_sl,low_ep,low_agg,low_tup,low_fn,low_pint,low_pstr,low_pbool,low_pints,low_pstrs,low_pbyte,low_pbytes];done)|simp [low_pu32,low_pu64,low_val,low_nilsl,low_sl,low_ep,low_agg,low_tup,low_fn,low_pint,low_pstr,low_pbool,low_pints,low_pstrs,low_pbyte,low_pbytes,low_pattrs,low_pdefs,low_pschema,low_pentry]))))|exact .inr (.inr ⟨_,_,rfl,rfl⟩))) ?_));exact RenQL.nil))))|((with_reducible refine SubR.ism ?_);refine SubR.setm ?_ rfl rfl (by (first|exact ⟨rfl,rfl,rfl,rfl,rfl⟩|exact RenM.low (by first|assumption|exact hlowm _|exact hlowm _ _)))))))
 ·rintro - -
  have hmax:=upTo_max hs64 256 (at_+slot * 256)
  have hbyt:Byte (upTo (secD D) (at_+slot * 256) 256):=Byte.of (upTo_byte hsb 256 (at_+slot * 256))
  unfold readT readM
  generalize upTo (secD D) (at_+slot * 256) 256=b at *
  by_cases g1:b.length < 16
  ·rw [if_pos g1]
   refine wk ?_
   exact RetH.mk (r':=.tup [.agg nilM,pbool false]) rfl weak_readN ⟨⟨_,rfl,WeakL.refl _⟩,⟨_,rfl,WeakL.refl _⟩,⟨_,rfl,WeakL.refl _⟩,trivial⟩ ⟨⟨rfl,rfl⟩,trivial⟩
  rw [if_neg g1]
  have hgb:=pcGetBytes (b.drop 16) (hbyt.drop 16)
  have hgk:=getS_back (b.drop 16)
  obtain ⟨s,u,er,h1⟩:∃s u er,getS (b.drop 16)=(s,u,er):=⟨_,_,_,rfl⟩
  rw [h1] at hgb
  rw [h1]
  simp only at hgb ⊢
  refine wk ?_
  by_cases g2:er=0
  case neg=>
   rw [if_pos g2]
   refine wk ?_
   exact RetH.mk (r':=.tup [.agg nilM,pbool false]) rfl weak_readN ⟨⟨_,rfl,WeakL.refl _⟩,⟨_,rfl,WeakL.refl _⟩,⟨_,rfl,WeakL.refl _⟩,trivial⟩ ⟨⟨rfl,rfl⟩,trivial⟩
  subst g2
  rw [if_neg (by simp)]
  obtain ⟨k1,k2,k3⟩:=hgk s u (hbyt.drop 16).all h1
  have hsz:s.size≤100000:=by
   have:=congrArg List.length k1
   rw [strB,List.length_append,bytesL_len,List.length_take,List.length_drop] at this
   omega
  clear hgk h1 k1 k2 k3
  have hof:=pw_of 32 [s] (by simp) (by intro x hx;simp only [List.mem_cons,List.not_mem_nil,or_false] at hx;subst hx;omega)
  have hof2:ofS glob0 32 [s]=hfT s:=rfl
  rw [hof2] at hof
  have h16:=hfT_len s
  have hb16:=hfT_byte s
  clear hof2
  generalize hfT s=H at *
  refine wg ?_
  refine PW.region typeTab_ok (by kernel_rfl) ?_
  refine wg ?_
  refine PW.freezeP (id:=14003) (s:=13) (off:=0) (σ':=((((((((bot.setb 1000004 (tC 1000001 at_ now)).setb 1000001 (dB 1000002 1000003 D)).setb 1000002 (dC D)).setm 1000003 (dM D)).setb 0 nilM).put 4 (.ptr 0 0)).put 6 (pbytes b)).put 10 (pstr s))) rfl rfl (low_map (fun _=>Low.val _) _) (by (repeat (first|exact SubR.bot|((with_reducible refine SubR.isp ?_);refine SubR.put ?_ (by (first|exact .inl (ren_tC rfl)|exact .inl (.ptr _ _ rfl)|exact .inl (.msl _ _ _ _ rfl)|exact .inl (.mref _ rfl)|exact .inl (.low _ (by (first|exact low_mapI|exact low_mapS|exact low_mapB|assumption|exact hlow _|exact hlow _ _|exact Low.agg _ (low_map (fun _=>Low.val _) _)|(simp [low_pu32,low_pu64,low_val,low_nilsl,low_sl,low_ep,low_agg,low_tup,low_fn,low_pint,low_pstr,low_pbool,low_pints,low_pstrs,low_pbyte,low_pbytes,hlow];done)|(simp [low_pu32,low_pu64,low_val,low_nilsl,low_sl,low_ep,low_agg,low_tup,low_fn,low_pint,low_pstr,low_pbool,low_pints,low_pstrs,low_pbyte,low_pbytes];done)|simp [low_pu32,low_pu64,low_val,low_nilsl,low_sl,low_ep,low_agg,low_tup,low_fn,low_pint,low_pstr,low_pbool,low_pints,low_pstrs,low_pbyte,low_pbytes,low_pattrs,low_pdefs,low_pschema,low_pentry])))|exact .inr (.inl (.low _ (by (first|exact low_mapI|exact low_mapS|exact low_mapB|assumption|exact hlow _|exact hlow _ _|exact Low.agg _ (low_map (fun _=>Low.val _) _)|(simp [low_pu32,low_pu64,low_val,low_nilsl,low_sl,low_ep,low_agg,low_tup,low_fn,low_pint,low_pstr,low_pbool,low_pints,low_pstrs,low_pbyte,low_pbytes,hlow];done)|(simp [low_pu32,low_pu64,low_val,low_nilsl,low_sl,low_ep,low_agg,low_tup,low_fn,low_pint,low_pstr,low_pbool,low_pints,low_pstrs,low_pbyte,low_pbytes];done)|simp [low_pu32,low_pu64,low_val,low_nilsl,low_sl,low_ep,low_agg,low_tup,low_fn,low_pint,low_pstr,low_pbool,low_pints,low_pstrs,low_pbyte,low_pbytes,low_pattrs,low_pdefs,low_pschema,low_pentry]))))|exact .inr (.inr ⟨_,_,rfl,rfl⟩))))|((with_reducible refine SubR.isb ?_);refine SubR.setb ?_ rfl rfl (by (first|exact RenQL.low (by first|assumption|exact hlow _|exact hlow _ _|exact low_map (fun _=>Low.val _) _)|exact RenQL.lowE (by assumption) (low_map (fun _=>Low.val _) _)|((repeat (refine RenQL.cons (by (first|exact .inl (ren_tC rfl)|exact .inl (.ptr _ _ rfl)|exact .inl (.msl _ _ _ _ rfl)|exact .inl (.mref _ rfl)|exact .inl (.low _ (by (first|exact low_mapI|exact low_mapS|exact low_mapB|assumption|exact hlow _|exact hlow _ _|exact Low.agg _ (low_map (fun _=>Low.val _) _)|(simp [low_pu32,low_pu64,low_val,low_nilsl,low_sl,low_ep,low_agg,low_tup,low_fn,low_pint,low_pstr,low_pbool,low_pints,low_pstrs,low_pbyte,low_pbytes,hlow];done)|(simp [low_pu32,low_pu64,low_val,low_nilsl,low_sl,low_ep,low_agg,low_tup,low_fn,low_pint,low_pstr,low_pbool,low_pints,low_pstrs,low_pbyte,low_pbytes];done)|simp [low_pu32,low_pu64,low_val,low_nilsl,low_sl,low_ep,low_agg,low_tup,low_fn,low_pint,low_pstr,low_pbool,low_pints,low_pstrs,low_pbyte,low_pbytes,low_pattrs,low_pdefs,low_pschema,low_pentry])))|exact .inr (.inl (.low _ (by (first|exact low_mapI|exact low_mapS|exact low_mapB|assumption|exact hlow _|exact hlow _ _|exact Low.agg _ (low_map (fun _=>Low.val _) _)|(simp [low_pu32,low_pu64,low_val,low_nilsl,low_sl,low_ep,low_agg,low_tup,low_fn,low_pint,low_pstr,low_pbool,low_pints,low_pstrs,low_pbyte,low_pbytes,hlow];done)|(simp [low_pu32,low_pu64,low_val,low_nilsl,low_sl,low_ep,low_agg,low_tup,low_fn,low_pint,low_pstr,low_pbool,low_pints,low_pstrs,low_pbyte,low_pbytes];done)|simp [low_pu32,low_pu64,low_val,low_nilsl,low_sl,low_ep,low_agg,low_tup,low_fn,low_pint,low_pstr,low_pbool,low_pints,low_pstrs,low_pbyte,low_pbytes,low_pattrs,low_pdefs,low_pschema,low_pentry]))))|exact .inr (.inr ⟨_,_,rfl,rfl⟩))) ?_));exact RenQL.nil))))|((with_reducible refine SubR.ism ?_);refine SubR.setm ?_ rfl rfl (by (first|exact ⟨rfl,rfl,rfl,rfl,rfl⟩|exact RenM.low (by first|assumption|exact hlowm _|exact hlowm _ _))))))) rfl ?_
  refine PW.draw typeTab_ok (by kernel_rfl) (by kernel_rfl) (by kernel_rfl) ?_
  refine PWops.slcE rfl rfl rfl rfl rfl rfl rfl (by rw [List.length_map,h16]) ⟨by decide,by decide⟩ ?_
  have hbe:=pw_bytesEqual H (b.take 16) (Byte.of hb16) (Byte.of fun c hc=>hbyt.all c (List.mem_of_mem_take hc))
  unfold pbytes at hbe
  rw [h16] at hbe
  by_cases g3:H=b.take 16
  case neg=>
   rw [decide_eq_false g3] at hbe
   rw [if_pos g3]
   clear g3
   refine wk ?_
   exact RetH.mk (r':=.tup [.agg nilM,pbool false]) rfl weak_readN ⟨⟨_,rfl,WeakL.refl _⟩,⟨_,rfl,WeakL.refl _⟩,⟨_,rfl,WeakL.refl _⟩,trivial⟩ ⟨⟨rfl,rfl⟩,trivial⟩
  rw [decide_eq_true g3] at hbe
  rw [if_neg (by simp [g3])]
  have hsb2:∀c∈bytesL s,0≤c∧c < 256:=bytesL_byte s
  have hdec:=pw_mDecode (bytesL s) (Byte.of hsb2) (by rw [bytesL_len];omega)
  rw [decA_eq hsb2] at hdec
  clear g3 hsb2
  have hsl:=bytesL_len s
  have hsc:=strC_eq s
  have hzz:=low_pmanL zeroM
  generalize bytesL s=t at *
  cases ho:decM t with
  |none=>
   rw [ho] at hdec
   clear ho
   refine wk ?_
   refine PWops.bytS rfl rfl rfl rfl rfl rfl rfl rfl rfl rfl rfl rfl (by omega) hsl.symm hsc ?_
   refine wk ?_
   exact RetH.mk (r':=readV none) rfl (Weak.refl _) ⟨⟨_,rfl,WeakL.refl _⟩,⟨_,rfl,WeakL.refl _⟩,⟨_,rfl,WeakL.refl _⟩,trivial⟩ ⟨⟨rfl,rfl⟩,trivial⟩
  |some x=>
   rw [ho] at hdec
   clear ho
   have hxx:=low_pmanL x
   refine wk ?_
   refine PWops.bytS rfl rfl rfl rfl rfl rfl rfl rfl rfl rfl rfl rfl (by omega) hsl.symm hsc ?_
   refine wk ?_
   exact RetH.mk (r':=readV (some x)) rfl (Weak.refl _) ⟨⟨_,rfl,WeakL.refl _⟩,⟨_,rfl,WeakL.refl _⟩,⟨_,rfl,WeakL.refl _⟩,trivial⟩ ⟨⟨rfl,rfl⟩,trivial⟩
def firstI (v:Int):Int:=2 * (v % 2)
theorem pw_first (v:Int) (h0:0≤v) (h1:v≤1000000000):PCalls Tryz.prog 62 [pint v] (· = pint (firstI v)):=by
 refine pcalls_of_pw typeTab_ok Tryz.func62 rfl (by kernel_rfl) (by simp [low_pint]) (by simp [pint,PV.ownB]) (by rw [Tryz.ntmps62];simp) ?_
 rw [Tryz.ntmps62,Tryz.results62]
 unfold firstI
 refine wk ?_
 exact retP rfl (.val _) rfl
def clearL (at_:Nat) (l:List Int):List PPut:=l.map fun s=>⟨at_+s * 256,zeroSec⟩
def DM.clr (D:DM) (at_:Nat) (l:List Int):DM:=(D.puts (clearL at_ l)).sync.2
set_option maxRecDepth 10000 in
set_option maxHeartbeats 2000000 in
theorem tc_clear1 {n k:Nat} {D:DM} (h:OkD n k D) (at_:Nat) (now:PMan) (l:List Int) (hl:∀s∈l,0≤s∧s≤3) (hn:at_+1024≤n) (hn2:n≤1000000000) (hk:k+l.length≤100000000):HCalls Tryz.prog 59 [.ptr 1000004 0,pints l] (tG 1000004 1000001 1000002 1000003 at_ now D) (dMs 1000003 D) (pint 0) (tG 1000004 1000001 1000002 1000003 at_ now (D.clr at_ l)) (dMs 1000003 (D.clr at_ l)):=by
 have hlr:Low (prefs now.refs):=(low_prefs _).2 trivial
 have hlt:Low (pints now.notes):=(low_pints _).2 trivial
 have hls:Low (pints l):=(low_pints _).2 trivial
 have hlow:∀i,∀c∈dC (D.puts ((clearL at_ l).take i)),Low c:=fun i=>dC_low _
 have hlowm:∀i,∀e∈(D.puts ((clearL at_ l).take i)).op.map dE,Low e.2.1∧Low e.2.2:=fun i=>dM_low _
 refine th_of_pw Tryz.func59 rfl rfl (by intro p hp;rcases List.mem_cons.1 hp with rfl|hp;exact .ptr _ _ (by simp);rcases List.mem_cons.1 hp with rfl|hp;exact hls.lowI;cases hp) (by simp [pints,PV.ownB]) (Nat.le_of_ble_eq_true rfl) (Low.val _).lowI ?_
 have hcl:(clearL at_ l).length=l.length:=by simp [clearL]
 have hi:InD n (clearL at_ l):=by
  intro p hp
  obtain ⟨s,hs,rfl⟩:=List.mem_map.1 hp
  have:=hl s hs
  simp only;omega
 have hD0:D=D.puts ((clearL at_ l).take 0):=rfl
 refine wk ?_
 refine PW.loop (fun i:Nat=>((((((((bot.setb 1000004 (tC 1000001 at_ now)).setb 1000001 (dB 1000002 1000003 (D.puts ((clearL at_ l).take i)))).setb 1000002 (dC (D.puts ((clearL at_ l).take i)))).setm 1000003 (dM (D.puts ((clearL at_ l).take i)))).put 0 (.ptr 1000004 0)).put 8 (pints l)).put 9 (pint l.length)).put 10 (pint i))) (fun i=>i≤l.length) (fun i=>l.length - i) 0 (by omega) ?_ ?_
 ·have h1:=hlow 0
  have h2:=hlowm 0
  exact sb
 ·intro i hil
  have hti:((clearL at_ l).take i).length=i:=by rw [List.length_take];omega
  obtain ⟨o1,o2⟩:=OkD.puts ((clearL at_ l).take i) h (fun p hp=>hi p (List.mem_of_mem_take hp)) (by omega)
  rw [hti] at o1
  by_cases hlt:i < l.length
  ·have hnx:(clearL at_ l).take (i+1)=(clearL at_ l).take i ++ [(clearL at_ l).getD i default]:=take_getD default (by omega)
   have hpp:(clearL at_ l).getD i default=⟨(at_:Int)+l.getD i default * 256,zeroSec⟩:=by
    simp [clearL,List.getD_eq_getElem?_getD,List.getElem?_map,List.getElem?_eq_getElem hlt]
   have hls3:=hl (l.getD i default) (by rw [List.getD_eq_getElem?_getD,List.getElem?_eq_getElem hlt];exact List.getElem_mem hlt)
   have hs:=o1.steps
   obtain ⟨w1,w2,w3⟩:=o1.write (i:=((at_:Int)+l.getD i default * 256)) (by omega) (by omega) (by omega) zeroSec
   have hw:=dc_Write (D.puts ((clearL at_ l).take i)) ((at_:Int)+l.getD i default * 256) zeroSec ⟨by omega,by omega,by rw [o1.after];omega⟩ (by rw [o1.after];omega) (fun e he=>by have:=o1.room e he;omega) 1000001 1000002 1000003 (by decide)
   rw [w1] at hw
   have hD2:D.puts ((clearL at_ l).take (i+1))=((D.puts ((clearL at_ l).take i)).write ((at_:Int)+l.getD i default * 256) zeroSec).2:=by rw [hnx,puts_snoc,hpp]
   rw [←hD2] at hw
   have h1:=hlow (i+1)
   have h2:=hlowm (i+1)
   clear hlow hlowm hD2 w2 w3 o2 hnx hpp hD0
   generalize hE2:D.puts ((clearL at_ l).take (i+1))=D2 at *
   generalize D.puts ((clearL at_ l).take i)=D1 at *
   refine wk ?_
   refine loopP (i+1) (by show i+1≤l.length;omega) (by show l.length - (i+1) < l.length - i;omega) ?_
   dsimp only
   rw [hE2]
   exact sb
  ·have e:i=l.length:=by omega
   subst e
   rw [show (clearL at_ l).take l.length=clearL at_ l by rw [←hcl,List.take_length]] at *
   obtain ⟨s1,s2,s3,s4⟩:=o1.sync_ok (by omega)
   have hs:=o1.steps
   have hsy:=dc_Sync (D.puts (clearL at_ l)) ⟨by omega,by omega,by rw [o1.after];omega⟩ (by rw [o1.after];omega) (by rw [o1.len];omega) (by rw [o1.len];exact o1.op) 1000001 1000002 1000003 (by decide)
   rw [s1] at hsy
   unfold DM.clr
   have h1:=dC_low (D.puts (clearL at_ l)).sync.2
   have h2:=dM_low (D.puts (clearL at_ l)).sync.2
   have h3:=dC_low (D.puts (clearL at_ l))
   have h4:=dM_low (D.puts (clearL at_ l))
   clear s1 s2 s3 s4 o1 o2 hlow hlowm
   generalize (D.puts (clearL at_ l)).sync.2=D2 at *
   generalize D.puts (clearL at_ l)=D1 at *
   refine wk ?_
   exact RetH.mk rfl (Weak.refl _) ⟨⟨_,rfl,WeakL.refl _⟩,⟨_,rfl,WeakL.refl _⟩,⟨_,rfl,WeakL.refl _⟩,trivial⟩ ⟨⟨rfl,rfl⟩,trivial⟩
end
section
open Go.RowKit
variable {P:Program} {T:Tab} {σ:PS} {o:Oper} {i base:Nat} {ops:Array Oper} {ok:Nat→Nat→Bool} {rest:List (Nat×Oper)} {K:PS→Prop}
theorem PWops.appFu {d s n m k e by_:Nat} {cs ds zr:List PV} {own:Option TypeId} {x:Operand} {t:TypeId} {sz:Nat} {ag:Bool} {zz:List PV} {es:List SK} (hg:pguard ops σ o=some true) (hd:o.dst=some d) (hop:o.op = .call { callee:=.builtin .append,args := #[.tmp s,x],argTypes := #[t,t] }) (hs:σ.t s = .sl n k cs (some (e+1000000))) (hx:pev σ x = .sl m k ds own) (ht:T.at t=some ⟨sz,ag, .slice e k by_ zr,zz,es⟩) (hb:σ.freeB (base+i)=true) (he:Nat.blt e 1000000=true) (hm:0 < m)
  (h1:(n+m) * by_≤140737488355328) (h2:n+m≤140737488355328) (hone:ds.all PV.one=true) (kn:PWops P T ops base ok rest K ((σ.put s (.sl n k cs none)).put d (.sl (n+m) k (cs ++ ds) (some e)))):PWops P T ops base ok ((i,o) :: rest) K σ:=by
 refine PWops.step hg (E:=⟨.sl (n+m) k (cs ++ ds) (some e),[],some s,[]⟩) ?_ hb ?_
 ·have how:ownPV (σ.only (ok i)) (.tmp s) = .sl n k cs (some (e+1000000)):=hs
  simp [hop,presE,how,pev_only,hx,ht,pappend,asOwn,asSrc,h1,h2,disOf,hm,(by simpa [Nat.blt_eq] using he:e < 1000000)]
  simpa using hone
 ·rw [hd]
  simp only [PS.app,hs,List.foldl_nil,List.foldl_cons]
  exact kn
end
section
open Go.RowKit
def secOf (l:List Int):Sec:=⟨if l.length=64∧∀x∈l,0≤x∧x < 256 then l else List.replicate 64 0,by split;assumption;decide⟩
theorem secOf_eq {l:List Int} (h:l.length=64∧∀x∈l,0≤x∧x < 256):(secOf l).1=l:=if_pos h
def blksL (a:Nat) (S:List Int):List PPut:=(List.range ((S.length+63) / 64)).map fun i=>⟨((a+i:Nat):Int),secOf (blk S i)⟩
def DM.wr (D:DM) (at_ slot:Nat) (m:PMan):DM:=D.puts (blksL (at_+slot * 256) (slotM hfT m))
theorem blk_byte {S:List Int} (h:∀c∈S,0≤c∧c < 256) (i:Nat):(blk S i).length=64∧∀c∈blk S i,0≤c∧c < 256:=by
 refine ⟨blk_len S i,fun c hc=>?_⟩
 unfold blk at hc
 rcases List.mem_append.1 hc with hc|hc
 ·exact h c (List.mem_of_mem_drop (List.mem_of_mem_take hc))
 ·obtain ⟨-,rfl⟩:=List.mem_replicate.1 hc;decide
theorem splice_blk {S:List Int} (h:∀c∈S,0≤c∧c < 256) (i:Nat):splice (List.replicate 64 (pbyte 0)) (0+0 * 1) (((S.drop (64 * i)).map pbyte).take (min (S.drop (64 * i)).length (64 - 0) * 1))=secL (secOf (blk S i)):=by
 have e:secL (secOf (blk S i))=(blk S i).map pbyte:=by
  unfold secL;rw [secOf_eq (blk_byte h i)]
 rw [e]
 unfold blk splice
 generalize S.drop (64 * i)=X
 have e2:(X.map pbyte).take (min X.length (64 - 0) * 1)=(X.take 64).map pbyte:=by
  rw [Nat.mul_one,Nat.sub_zero,←List.map_take]
  congr 1
  by_cases hx:X.length≤64
  ·rw [Nat.min_eq_left hx,List.take_length,List.take_of_length_le hx]
  ·rw [Nat.min_eq_right (by omega)]
 rw [e2,List.map_append,List.map_replicate,List.length_map,List.drop_replicate]
 simp
set_option maxRecDepth 10000 in
set_option maxHeartbeats 2000000 in
theorem tc_write1 {n k:Nat} {D:DM} (h:OkD n k D) (at_ slot:Nat) (now m:PMan) (hs3:slot≤3) (hn:at_+1024≤n) (hn2:n≤1000000000) (hk:k+256≤100000000) (hm:EncM m) (hml:(slotM hfT m).length≤16384):HCalls Tryz.prog 60 [.ptr 1000004 0,pint slot,pman m] (tG 1000004 1000001 1000002 1000003 at_ now D) (dMs 1000003 D) (pint 0) (tG 1000004 1000001 1000002 1000003 at_ now (D.wr at_ slot m)) (dMs 1000003 (D.wr at_ slot m)):=by
 have hlr:Low (prefs now.refs):=(low_prefs _).2 trivial
 have hlt:Low (pints now.notes):=(low_pints _).2 trivial
 have hlm:=low_pmanL m
 refine th_of_pw Tryz.func60 rfl rfl (by intro p hp;rcases List.mem_cons.1 hp with rfl|hp;exact .ptr _ _ (by simp);rcases List.mem_cons.1 hp with rfl|hp;exact .val _;rcases List.mem_cons.1 hp with rfl|hp;exact ((low_pman m).2 trivial).lowI;cases hp) (by simp [pman,pint,PV.ownB]) (Nat.le_of_ble_eq_true rfl) (Low.val _).lowI ?_
 have henc:=pw_mEncode m hm
 have h16:=hfT_len (strOf (encM m))
 have hb16:=hfT_byte (strOf (encM m))
 have hsz:(strOf (encM m)).size=(encM m).length:=strOf_size _
 have hse:(encM m).length≤16384:=by
  rw [slotM,List.length_append,strB,List.length_append,bytesL_len,hsz] at hml;omega
 have hof:=pw_of 32 [strOf (encM m)] (by simp) (by intro x hx;simp only [List.mem_cons,List.not_mem_nil,or_false] at hx;subst hx;omega)
 have hof2:ofS glob0 32 [strOf (encM m)]=hfT (strOf (encM m)):=rfl
 rw [hof2] at hof
 have hby:=pcWBytes (strOf (encM m)) (by omega)
 have hSl:(slotM hfT m).length=16+(strB (strOf (encM m))).length:=by rw [slotM,List.length_append,h16]
 have hSb:∀c∈slotM hfT m,0≤c∧c < 256:=by
  intro c hc
  rw [slotM] at hc
  rcases List.mem_append.1 hc with hc|hc
  ·exact hb16 c hc
  ·exact strB_byte _ (by omega) c hc
 have h0:0 < (strB (strOf (encM m))).length:=by
  have:1≤(intB (strOf (encM m)).size).length:=leb_pos _
  rw [strB,List.length_append];omega
 have hS:slotM hfT m=hfT (strOf (encM m)) ++ strB (strOf (encM m)):=rfl
 unfold DM.wr
 clear hof2
 have c1:=dC_low D
 have c2:=dM_low D
 have hsi:strI (encM m)=strOf (encM m):=rfl
 generalize hfT (strOf (encM m))=H at *
 generalize hB:strB (strOf (encM m))=B at *
 generalize strOf (encM m)=s at *
 generalize slotM hfT m=S at *
 generalize encM m=E at *
 subst hsi
 refine wg ?_
 refine PW.region typeTab_ok (by kernel_rfl) ?_
 refine wg ?_
 refine PW.region typeTab_ok (by kernel_rfl) ?_
 refine wg ?_
 refine PW.region typeTab_ok (by kernel_rfl) ?_
 refine wg ?_
 refine PW.freezeP (id:=2003) (s:=8) (off:=0) (σ':=(((((((bot.setb 1000004 (tC 1000001 at_ now)).setb 1000001 (dB 1000002 1000003 D)).setb 1000002 (dC D)).setm 1000003 (dM D)).put 0 (.ptr 1000004 0)).put 1 (pint slot)).put 7 (.val (.string (strI E))))) rfl rfl (low_map (fun _=>Low.val _) _) (by (repeat (first|exact SubR.bot|((with_reducible refine SubR.isp ?_);refine SubR.put ?_ (by (first|exact .inl (ren_tC rfl)|exact .inl (.ptr _ _ rfl)|exact .inl (.msl _ _ _ _ rfl)|exact .inl (.mref _ rfl)|exact .inl (.low _ (by (first|exact low_mapI|exact low_mapS|exact low_mapB|assumption|exact hlow _|exact hlow _ _|exact Low.agg _ (low_map (fun _=>Low.val _) _)|(simp [low_pu32,low_pu64,low_val,low_nilsl,low_sl,low_ep,low_agg,low_tup,low_fn,low_pint,low_pstr,low_pbool,low_pints,low_pstrs,low_pbyte,low_pbytes,hlow];done)|(simp [low_pu32,low_pu64,low_val,low_nilsl,low_sl,low_ep,low_agg,low_tup,low_fn,low_pint,low_pstr,low_pbool,low_pints,low_pstrs,low_pbyte,low_pbytes];done)|simp [low_pu32,low_pu64,low_val,low_nilsl,low_sl,low_ep,low_agg,low_tup,low_fn,low_pint,low_pstr,low_pbool,low_pints,low_pstrs,low_pbyte,low_pbytes,low_pattrs,low_pdefs,low_pschema,low_pentry])))|exact .inr (.inl (.low _ (by (first|exact low_mapI|exact low_mapS|exact low_mapB|assumption|exact hlow _|exact hlow _ _|exact Low.agg _ (low_map (fun _=>Low.val _) _)|(simp [low_pu32,low_pu64,low_val,low_nilsl,low_sl,low_ep,low_agg,low_tup,low_fn,low_pint,low_pstr,low_pbool,low_pints,low_pstrs,low_pbyte,low_pbytes,hlow];done)|(simp [low_pu32,low_pu64,low_val,low_nilsl,low_sl,low_ep,low_agg,low_tup,low_fn,low_pint,low_pstr,low_pbool,low_pints,low_pstrs,low_pbyte,low_pbytes];done)|simp [low_pu32,low_pu64,low_val,low_nilsl,low_sl,low_ep,low_agg,low_tup,low_fn,low_pint,low_pstr,low_pbool,low_pints,low_pstrs,low_pbyte,low_pbytes,low_pattrs,low_pdefs,low_pschema,low_pentry]))))|exact .inr (.inr ⟨_,_,rfl,rfl⟩))))|((with_reducible refine SubR.isb ?_);refine SubR.setb ?_ rfl rfl (by (first|exact RenQL.low (by first|assumption|exact hlow _|exact hlow _ _|exact low_map (fun _=>Low.val _) _)|exact RenQL.lowE (by assumption) (low_map (fun _=>Low.val _) _)|((repeat (refine RenQL.cons (by (first|exact .inl (ren_tC rfl)|exact .inl (.ptr _ _ rfl)|exact .inl (.msl _ _ _ _ rfl)|exact .inl (.mref _ rfl)|exact .inl (.low _ (by (first|exact low_mapI|exact low_mapS|exact low_mapB|assumption|exact hlow _|exact hlow _ _|exact Low.agg _ (low_map (fun _=>Low.val _) _)|(simp [low_pu32,low_pu64,low_val,low_nilsl,low_sl,low_ep,low_agg,low_tup,low_fn,low_pint,low_pstr,low_pbool,low_pints,low_pstrs,low_pbyte,low_pbytes,hlow];done)|(simp [low_pu32,low_pu64,low_val,low_nilsl,low_sl,low_ep,low_agg,low_tup,low_fn,low_pint,low_pstr,low_pbool,low_pints,low_pstrs,low_pbyte,low_pbytes];done)|simp [low_pu32,low_pu64,low_val,low_nilsl,low_sl,low_ep,low_agg,low_tup,low_fn,low_pint,low_pstr,low_pbool,low_pints,low_pstrs,low_pbyte,low_pbytes,low_pattrs,low_pdefs,low_pschema,low_pentry])))|exact .inr (.inl (.low _ (by (first|exact low_mapI|exact low_mapS|exact low_mapB|assumption|exact hlow _|exact hlow _ _|exact Low.agg _ (low_map (fun _=>Low.val _) _)|(simp [low_pu32,low_pu64,low_val,low_nilsl,low_sl,low_ep,low_agg,low_tup,low_fn,low_pint,low_pstr,low_pbool,low_pints,low_pstrs,low_pbyte,low_pbytes,hlow];done)|(simp [low_pu32,low_pu64,low_val,low_nilsl,low_sl,low_ep,low_agg,low_tup,low_fn,low_pint,low_pstr,low_pbool,low_pints,low_pstrs,low_pbyte,low_pbytes];done)|simp [low_pu32,low_pu64,low_val,low_nilsl,low_sl,low_ep,low_agg,low_tup,low_fn,low_pint,low_pstr,low_pbool,low_pints,low_pstrs,low_pbyte,low_pbytes,low_pattrs,low_pdefs,low_pschema,low_pentry]))))|exact .inr (.inr ⟨_,_,rfl,rfl⟩))) ?_));exact RenQL.nil))))|((with_reducible refine SubR.ism ?_);refine SubR.setm ?_ rfl rfl (by (first|exact ⟨rfl,rfl,rfl,rfl,rfl⟩|exact RenM.low (by first|assumption|exact hlowm _|exact hlowm _ _))))))) rfl ?_
 refine PW.draw typeTab_ok (by kernel_rfl) (by kernel_rfl) (by kernel_rfl) ?_
 refine PWops.slcE rfl rfl rfl rfl rfl rfl rfl (by rw [List.length_map,h16]) ⟨by decide,by decide⟩ ?_
 refine PWops.stepA rfl ?_
 refine wg ?_
 refine PWops.appFu rfl rfl rfl rfl rfl rfl rfl rfl (by omega) (by omega) (by omega) (one_map (fun _=>rfl) _) ?_
 refine wk ?_
 obtain ⟨L,hL⟩:∃L,L=blksL (at_+slot * 256) S:=⟨_,rfl⟩
 have hLl:L.length=(S.length+63) / 64:=by rw [hL,blksL,List.length_map,List.length_range]
 have hLg:∀i,i < L.length→L.getD i default=⟨((at_+slot * 256+i:Nat):Int),secOf (blk S i)⟩:=by
  intro i hi
  rw [hL]
  rw [hLl] at hi
  simp [blksL,List.getD_eq_getElem?_getD,hi]
 have hin:InD n L:=by
  intro p hp
  rw [hL] at hp
  obtain ⟨j,hj,rfl⟩:=List.mem_map.1 hp
  rw [List.mem_range] at hj
  simp only;omega
 rw [←hL]
 have hlow1:∀i,∀c∈dC (D.puts (L.take i)),Low c:=fun i=>dC_low _
 have hlowm:∀i,∀e∈(D.puts (L.take i)).op.map dE,Low e.2.1∧Low e.2.2:=fun i=>dM_low _
 have hlS:Low (pbytes S):=.sl _ _ _ _ (low_map (fun _=>Low.val _) _)
 have e6:pbytes S = .sl (16+B.length) 1 (H.map pbyte ++ B.map pbyte) none:=by
  unfold pbytes;rw [hSl,hS,List.map_append]
 have hD0:D=D.puts (L.take 0):=rfl
 refine PW.loop (fun i:Nat=>((((((((bot.setb 1000004 (tC 1000001 at_ now)).setb 1000001 (dB 1000002 1000003 (D.puts (L.take i)))).setb 1000002 (dC (D.puts (L.take i)))).setm 1000003 (dM (D.puts (L.take i)))).put 0 (.ptr 1000004 0)).put 1 (pint slot)).put 9 (pbytes S)).put 10 (pint i))) (fun i=>i≤L.length) (fun i=>L.length - i) 0 (by omega) ?_ ?_
 ·have h1:=hlow1 0
  have h2:=hlowm 0
  have hlow:∀o:Option TypeId,Low (.sl (16+B.length) 1 (H.map pbyte ++ B.map pbyte) o):=fun o=>.sl _ _ _ _ (fun c hc=>by
   rcases List.mem_append.1 hc with hc|hc
   ·obtain ⟨x,-,rfl⟩:=List.mem_map.1 hc;exact .val _
   ·obtain ⟨x,-,rfl⟩:=List.mem_map.1 hc;exact .val _)
  try dsimp only
  rw [e6]
  exact sb
 ·intro i hil
  have hti:(L.take i).length=i:=by rw [List.length_take];omega
  obtain ⟨o1,o2⟩:=OkD.puts (L.take i) h (fun p hp=>hin p (List.mem_of_mem_take hp)) (by omega)
  rw [hti] at o1
  by_cases hlt:i < L.length
  ·have hnx:L.take (i+1)=L.take i ++ [L.getD i default]:=take_getD default (by omega)
   have hpp:=hLg i hlt
   have hs:=o1.steps
   obtain ⟨w1,w2,w3⟩:=o1.write (i:=((at_+slot * 256+i:Nat):Int)) (by omega) (by omega) (by omega) (secOf (blk S i))
   have hw:=dc_Write (D.puts (L.take i)) ((at_+slot * 256+i:Nat):Int) (secOf (blk S i)) ⟨by omega,by omega,by rw [o1.after];omega⟩ (by rw [o1.after];omega) (fun e he=>by have:=o1.room e he;omega) 1000001 1000002 1000003 (by decide)
   rw [w1] at hw
   have hD2:D.puts (L.take (i+1))=((D.puts (L.take i)).write ((at_+slot * 256+i:Nat):Int) (secOf (blk S i))).2:=by rw [hnx,puts_snoc,hpp]
   rw [←hD2] at hw
   have h1:=hlow1 (i+1)
   have h2:=hlowm (i+1)
   have h3:=hlow1 i
   have h4:=hlowm i
   clear hlow1 hlowm hD2 w2 w3 o2 hnx hpp hD0
   generalize hE2:D.puts (L.take (i+1))=D2 at *
   generalize D.puts (L.take i)=D1 at *
   have hq:((i:Int) * 64).toNat=64 * i:=by omega
   refine wk ?_
   refine PWops.copy (n2:=(S.drop (64 * i)).length) (cs:=(S.drop (64 * i)).map pbyte) (out:=secL (secOf (blk S i))) rfl rfl rfl rfl rfl ?_ rfl rfl rfl ?_ ?_ ?_ ?_
   ·show copySrc _ 1 (.sl (List.drop ((i:Int) * 64).toNat S).length 1 (List.map pbyte (List.drop ((i:Int) * 64).toNat S)) none)=_
    rw [hq]
    show (if 1=1∧_ then some (_,_) else none)=_
    rw [if_pos ⟨rfl,one_map (fun _=>rfl) _⟩,bare_map (fun _=>rfl) _]
   ·show 0+0 * 1+min _ (64 - 0) * 1≤64
    omega
   ·rw [List.length_map];omega
   ·exact splice_blk hSb i
   refine wk ?_
   refine loopP (i+1) (by show i+1≤L.length;omega) (by show L.length - (i+1) < L.length - i;omega) ?_
   try dsimp only
   rw [hE2]
   exact sb
  ·have e:i=L.length:=by omega
   subst e
   rw [List.take_length] at *
   have h1:=dC_low (D.puts L)
   have h2:=dM_low (D.puts L)
   refine wk ?_
   exact RetH.mk rfl (Weak.refl _) ⟨⟨_,rfl,WeakL.refl _⟩,⟨_,rfl,WeakL.refl _⟩,⟨_,rfl,WeakL.refl _⟩,trivial⟩ ⟨⟨rfl,rfl⟩,trivial⟩
set_option maxRecDepth 100000 in
set_option maxHeartbeats 2000000 in
theorem cloneR0 (a:Option Addr) (cap:Nat) (w:World):Calls Tryz.prog 84 #[.slice a 0 cap] w (fun e w' => ∃a' cap',e = .returned (.slice a' 0 cap')∧cap'≤maxLen∧Below w.heap.size w w'):=by
 cases a with
 |none=>
  have he:=fun (w:World)=>Lib.run_eql_slice_nil (P:=Tryz.prog) w 23 42 none 0 cap 0 0 (by kernel_rfl)
  go_enter Tryz.func84,Tryz.ntmps84
  simp only [Option.isNone_none] at he
  go_wp2
  go_ret
  exact ⟨_,_,rfl,by unfold maxLen;omega,Below.refl _ _⟩
 |some ad=>
  have he:=fun (w:World)=>Lib.run_eql_slice_nil (P:=Tryz.prog) w 23 42 (some ad) 0 cap 0 0 (by kernel_rfl)
  go_enter Tryz.func84,Tryz.ntmps84
  simp only [Option.isNone_some] at he
  go_wp2
  go_ret
  exact ⟨_,_,rfl,by unfold maxLen;omega,(Below.refl _ _).alloc (Nat.le_refl _) _⟩
theorem pcCloneR0:PCalls Tryz.prog 84 [prefs []] (· = prefs []):=
 pcalls1 (by kernel_rfl) fun Φ μ w v himm hr=>by
  obtain ⟨a,b,off,cap,us,rfl,-⟩:=hr.sl_inv
  refine (cloneR0 a cap w).mono ?_
  rintro e w' ⟨a',cap',rfl,hc,hb⟩
  exact ⟨_,_,Φ,rfl,rfl, .sl0 _ _ _ _ hc,fun b o u e=>below_cell hb (himm b o u e),fun _ _ _=>rfl,hb,fun n k cs E' e=>by cases e⟩
theorem pcalls_bare {P:Program} {f:FuncId} {args:List PV} {n k:Nat} {cs:List PV} {o:Option TypeId} (h:PCalls P f args (· = .sl n k cs o)):PCalls P f args (· = .sl n k cs none):=by
 refine ⟨h.1,fun Φ μ w vs h1 hgl h2=>(h.2 Φ μ w vs h1 hgl h2).mono ?_⟩
 rintro e w' ⟨r,v,Φ',k1,rfl,k3,k4,k5,k6,-⟩
 exact ⟨_,v,Φ',k1,rfl,k3.bare,k4,k5,k6,fun n k cs E e=>by cases e⟩
set_option maxRecDepth 10000 in
theorem pcCloneR (l:List PRef) (hl:l.length≤1000000):PCalls Tryz.prog 84 [prefs l] (· = prefs l):=by
 cases l with
 |nil=>exact pcCloneR0
 |cons x l=>
  have hlr:Low (prefs (x :: l)):=(low_prefs _).2 trivial
  simp only [List.length_cons] at hl
  have hone:((x :: l).flatMap prefL).all PV.one=true:=by
   rw [List.all_eq_true];intro c hc
   obtain ⟨y,-,hc⟩:=List.mem_flatMap.1 hc
   exact List.all_eq_true.1 (rfl:(prefL y).all PV.one=true) c hc
  refine pcalls_bare (o:=some 42) ?_
  refine pcalls_of_pw typeTab_ok Tryz.func84 rfl (by kernel_rfl) (by simp [hlr]) (by simp [prefs,PV.ownB]) (Nat.le_of_ble_eq_true rfl) ?_
  refine PW.seq ?_
  refine PW.region typeTab_ok (by kernel_rfl) ?_
  refine wg ?_
  refine PW.region typeTab_ok (by kernel_rfl) ?_
  refine wg ?_
  refine PW.region typeTab_ok (by kernel_rfl) ?_
  (refine ops0 ?_)
  (refine ops0 ?_)
  refine PWops.app rfl rfl rfl rfl rfl rfl rfl rfl (by simp only [List.length_cons];omega) (by simp only [List.length_cons];omega) hone ?_
  refine wk ?_
  rw [Nat.zero_add,List.nil_append]
  exact retP rfl (low_sl.2 (low_sl.1 hlr)) rfl
def CloM (m:PMan):Prop:=m.notes.length≤1000000∧m.refs.length≤1000000
set_option maxRecDepth 10000 in
theorem pw_clone (m:PMan) (h:CloM m):PCalls Tryz.prog 57 [pman m] (· = pman m):=by
 have hlm:=low_pmanL m
 have c1:=pcClone m.notes (by have:=h.1;omega)
 have c2:=pcCloneR m.refs (by have:=h.2;omega)
 refine pcalls_of_pw typeTab_ok Tryz.func57 rfl (by kernel_rfl) (by simp [(low_pman m).2 trivial]) (by simp [pman,PV.ownB]) (Nat.le_of_ble_eq_true rfl) ?_
 refine wk ?_
 exact retP rfl ((low_pman m).2 trivial) rfl
set_option maxRecDepth 10000 in
theorem tc_Now1 (D:DM) (at_:Nat) (now:PMan) (h:CloM now):HCalls Tryz.prog 27 [.ptr 1000004 0] (tG 1000004 1000001 1000002 1000003 at_ now D) (dMs 1000003 D) (pman now) (tG 1000004 1000001 1000002 1000003 at_ now D) (dMs 1000003 D):=by
 have hlr:Low (prefs now.refs):=(low_prefs _).2 trivial
 have hlt:Low (pints now.notes):=(low_pints _).2 trivial
 have hc:=pw_clone now h
 refine th_of_pw Tryz.func27 rfl rfl (by intro p hp;rcases List.mem_cons.1 hp with rfl|hp;exact .ptr _ _ (by simp);cases hp) (by simp [PV.ownB]) (Nat.le_of_ble_eq_true rfl) ((low_pman _).2 trivial).lowI ?_
 refine wk ?_
 exact RetH.mk rfl (Weak.refl _) ⟨⟨_,rfl,WeakL.refl _⟩,⟨_,rfl,WeakL.refl _⟩,⟨_,rfl,WeakL.refl _⟩,trivial⟩ ⟨⟨rfl,rfl⟩,trivial⟩
theorem clearL_in {n:Nat} {at_:Nat} {l:List Int} (hl:∀s∈l,0≤s∧s≤3) (hn:at_+1024≤n):InD n (clearL at_ l):=by
 intro p hp
 obtain ⟨s,hs,rfl⟩:=List.mem_map.1 hp
 have:=hl s hs
 simp only;omega
theorem OkD.clr {n k:Nat} {D:DM} (h:OkD n k D) {at_:Nat} {l:List Int} (hl:∀s∈l,0≤s∧s≤3) (hn:at_+1024≤n) (hk:k+l.length≤100000000):OkD n (k+l.length+1) (D.clr at_ l)∧(D.clr at_ l).op = []:=by
 have hcl:(clearL at_ l).length=l.length:=by simp [clearL]
 obtain ⟨o1,-⟩:=OkD.puts (clearL at_ l) h (clearL_in hl hn) (by omega)
 obtain ⟨-,s2,-,s4⟩:=o1.sync_ok (by omega)
 rw [hcl] at s2
 exact ⟨s2,s4⟩
theorem blksL_in {n at_ slot:Nat} {S:List Int} (hs:slot≤3) (hn:at_+1024≤n) (hS:S.length≤16384):InD n (blksL (at_+slot * 256) S)∧(blksL (at_+slot * 256) S).length≤256:=by
 refine ⟨?_,by rw [blksL,List.length_map,List.length_range];omega⟩
 intro p hp
 obtain ⟨j,hj,rfl⟩:=List.mem_map.1 hp
 rw [List.mem_range] at hj
 simp only;omega
theorem OkD.wr {n k:Nat} {D:DM} (h:OkD n k D) {at_ slot:Nat} {m:PMan} (hs:slot≤3) (hn:at_+1024≤n) (hS:(slotM hfT m).length≤16384) (hk:k+256≤100000000):OkD n (k+256) (D.wr at_ slot m):=by
 obtain ⟨i1,i2⟩:=blksL_in (at_:=at_) hs hn hS
 exact (OkD.puts _ h i1 (by omega)).1.mono (by omega)
def DM.turnF (D:DM) (at_ f:Nat) (m:PMan):DM:=(((D.clr at_ [(f:Int),(f:Int)+1]).wr at_ f m).wr at_ (f+1) m).sync.2
def DM.turn (D:DM) (at_:Nat) (m:PMan):DM:=D.turnF at_ (firstI m.ver).toNat m
set_option maxRecDepth 10000 in
set_option maxHeartbeats 2000000 in
theorem tc_Turn1 {n k:Nat} {D:DM} (h:OkD n k D) (at_:Nat) (now m:PMan) (hn:at_+1024≤n) (hn2:n≤1000000000) (hk:k+1000≤100000000) (hv:m.ver=now.ver+1) (hv0:0≤now.ver∧now.ver < 1000000000) (hc:checkM 2 3 m=0) (hm:EncM m) (hml:(slotM hfT m).length≤16384) (hcl:CloM m):HCalls Tryz.prog 30 [.ptr 1000004 0,pints m.notes,prefs m.refs] (tG 1000004 1000001 1000002 1000003 at_ now D) (dMs 1000003 D) (pint 0) (tG 1000004 1000001 1000002 1000003 at_ m (D.turn at_ m)) (dMs 1000003 (D.turn at_ m)):=by
 have hlr:Low (prefs now.refs):=(low_prefs _).2 trivial
 have hlt:Low (pints now.notes):=(low_pints _).2 trivial
 have hmr:Low (prefs m.refs):=(low_prefs _).2 trivial
 have hmt:Low (pints m.notes):=(low_pints _).2 trivial
 refine th_of_pw Tryz.func30 rfl rfl (by intro p hp;rcases List.mem_cons.1 hp with rfl|hp;exact .ptr _ _ (by simp);rcases List.mem_cons.1 hp with rfl|hp;exact hmt.lowI;rcases List.mem_cons.1 hp with rfl|hp;exact hmr.lowI;cases hp) (by simp [pints,prefs,PV.ownB]) (Nat.le_of_ble_eq_true rfl) (Low.val _).lowI ?_
 have hck:=pw_mCheck m (by have:=hcl.1;omega) (by have:=hcl.2;omega)
 rw [hc] at hck
 have hclo:=pw_clone m hcl
 have hfi:=pw_first m.ver (by omega) (by omega)
 have hf01:0≤firstI m.ver∧firstI m.ver+1≤3:=by unfold firstI;omega
 have hfn:((firstI m.ver).toNat:Int)=firstI m.ver:=by omega
 unfold DM.turn DM.turnF
 generalize hF:(firstI m.ver).toNat=f at *
 have hsl:∀s ∈ [(f:Int),(f:Int)+1],0≤s∧s≤3:=by
  intro s hs
  simp only [List.mem_cons,List.not_mem_nil,or_false] at hs
  omega
 rw [←hfn] at hfi
 have k1:=tc_clear1 h at_ now [(f:Int),(f:Int)+1] hsl hn hn2 (by simp;omega)
 obtain ⟨o1,p1⟩:=h.clr hsl hn (by simp;omega)
 simp only [List.length_cons,List.length_nil] at o1
 generalize D.clr at_ [(f:Int),(f:Int)+1]=D1 at *
 have k2:=tc_write1 o1 at_ f now m (by omega) hn hn2 (by omega) hm hml
 have o2:=o1.wr (slot:=f) (by omega) hn hml (by omega)
 generalize D1.wr at_ f m=D2 at *
 have k3:HCalls Tryz.prog 60 [.ptr 1000004 0,pint ((f:Int)+1),pman m] (tG 1000004 1000001 1000002 1000003 at_ now D2) (dMs 1000003 D2) (pint 0) (tG 1000004 1000001 1000002 1000003 at_ now (D2.wr at_ (f+1) m)) (dMs 1000003 (D2.wr at_ (f+1) m)):=tc_write1 o2 at_ (f+1) now m (by omega) hn hn2 (by omega) hm hml
 have o3:=o2.wr (slot:=f+1) (by omega) hn hml (by omega)
 generalize D2.wr at_ (f+1) m=D3 at *
 have hs:=o3.steps
 obtain ⟨s1,s2,s3,s4⟩:=o3.sync_ok (by omega)
 have hsy:=dc_Sync D3 ⟨by omega,by omega,by rw [o3.after];omega⟩ (by rw [o3.after];omega) (by rw [o3.len];omega) (by rw [o3.len];exact o3.op) 1000001 1000002 1000003 (by decide)
 rw [s1] at hsy
 clear s1 s2 s3 s4 hs o1 o2 o3 h p1 hc hm hml hcl hF
 generalize D3.sync.2=D4 at *
 obtain ⟨ver,notes,refs⟩:=m
 simp only at hv
 subst hv
 simp only at *
 have c1:=dC_low D
 have c2:=dM_low D
 refine wk ?_
 refine PW.unroll ?_
 refine wk ?_
 refine loopU ?_
 refine wk ?_
 refine loopU ?_
 refine wk ?_
 exact RetH.mk rfl (Weak.refl _) ⟨⟨_,rfl,WeakL.refl _⟩,⟨_,rfl,WeakL.refl _⟩,⟨_,rfl,WeakL.refl _⟩,trivial⟩ ⟨⟨rfl,rfl⟩,trivial⟩
def copT (D:DM) (at_:Nat):Nat→List (List PV)
 |0 => []
 |k+1=>copT D at_ k ++ (match readT D at_ k with
  |some x => [[pint k,pman x]]
  |none => [])
def Pre (xs pre:List (List PV)):Prop:=∃r,xs=pre ++ r
theorem copT_pre {D : DM} {at_ : Nat} : ∀ {n k : Nat}, k ≤ n → Pre (copT D at_ n) (copT D at_ k)
  | 0, k, h => by obtain rfl : k = 0 := by omega
                  exact ⟨[], rfl⟩
  | n + 1, k, h => by
    by_cases e : k = n + 1
    · subst e; exact ⟨[], by simp⟩
    · obtain ⟨r, hr⟩ := copT_pre (D := D) (at_ := at_) (show k ≤ n by omega)
      rw [copT, hr, List.append_assoc]
      exact ⟨_, rfl⟩
theorem dC_noown (D:DM):∀c∈dC D,c.ownB=false:=by
 intro c hc
 obtain ⟨d,-,hc⟩:=List.mem_flatMap.1 hc
 unfold dcellL at hc
 rcases List.mem_append.1 hc with hc|hc
 ·unfold secL at hc
  obtain ⟨x,-,rfl⟩:=List.mem_map.1 hc;rfl
 ·simp only [List.mem_cons,List.not_mem_nil,or_false] at hc;subst hc;rfl
theorem lend_dG {D:DM} (hop:D.op = []) {d c m:Nat} (hd : [d,c,m].Nodup):LentOK (dG d c m D) (dMs m D) where
 nd:=hd
 lowb:=by
  intro x hx
  simp only [dG,List.mem_cons,List.not_mem_nil,or_false] at hx
  rcases hx with rfl|rfl
  ·exact dB_lowI (by simp [ResIds,dG,dMs]) (by simp [ResIds,dG,dMs]) D
  ·exact fun p hp=>(dC_low D p hp).lowI
 lowm:=by
  intro x hx
  simp only [dMs,List.mem_cons,List.not_mem_nil,or_false] at hx
  subst hx
  exact fun e he=>⟨(dM_low D e he).1.lowI,(dM_low D e he).2.lowI⟩
 nob:=by
  intro x hx
  simp only [dG,List.mem_cons,List.not_mem_nil,or_false] at hx
  rcases hx with rfl|rfl
  ·intro c hc
   simp only [dB,List.mem_cons,List.not_mem_nil,or_false] at hc
   rcases hc with rfl|rfl|rfl|rfl|rfl<;>rfl
  ·exact dC_noown D
 nom:=by
  intro x hx es clock e
  simp only [dMs,List.mem_cons,List.not_mem_nil,or_false] at hx
  subst hx
  unfold dM at e
  rw [hop] at e
  simp only [List.map_nil,PMap.map.injEq] at e
  rw [←e.1]
  simp
def NoB (σ:PS):Prop:=∀id bs,σ.b id=some bs→∀c∈bs,c.ownB=false
def NoM (σ:PS):Prop:=∀id es c,σ.m id=some (.map es c)→∀e∈es,e.2.2.ownB=false
theorem noB_bot:NoB bot:=fun id bs e=>by cases e
theorem noB_put {σ:PS} {d:Nat} {v:PV} (h:NoB σ):NoB (σ.put d v):=h
theorem noB_setm {σ:PS} {d:Nat} {v:PMap} (h:NoB σ):NoB (σ.setm d v):=h
theorem noB_setb {σ:PS} {d:Nat} {cs:List PV} (h:NoB σ) (hc:∀c∈cs,c.ownB=false):NoB (σ.setb d cs):=by
 intro id bs e
 simp only [PS.setb,upd] at e
 cases hq:id.beq d with
 |true=>rw [hq] at e;cases e;exact hc
 |false=>rw [hq] at e;exact h id bs e
theorem noM_bot:NoM bot:=fun id es c e=>by cases e
theorem noM_put {σ:PS} {d:Nat} {v:PV} (h:NoM σ):NoM (σ.put d v):=h
theorem noM_setb {σ:PS} {d:Nat} {v:List PV} (h:NoM σ):NoM (σ.setb d v):=h
theorem noM_setm {σ:PS} {d:Nat} {c:Nat} (h:NoM σ):NoM (σ.setm d (.map [] c)):=by
 intro id es c' e
 simp only [PS.setm,upd] at e
 cases hq:id.beq d with
 |true=>rw [hq] at e;cases e;intro e he;cases he
 |false=>rw [hq] at e;exact h id es c' e
theorem dB_noown (c m:Nat) (D:DM):∀x∈dB c m D,x.ownB=false:=by
 intro x hx
 simp only [dB,List.mem_cons,List.not_mem_nil,or_false] at hx
 rcases hx with rfl|rfl|rfl|rfl|rfl<;>rfl
theorem pman_noown (m:PMan):∀x∈pmanL m,x.ownB=false:=by
 intro x hx
 simp only [pmanL,List.mem_cons,List.not_mem_nil,or_false] at hx
 rcases hx with rfl|rfl|rfl<;>rfl
theorem ren_tC2 {S:Nat→Prop} {d at_:Nat} {m:PMan} (h:S d):Ren (fun i=>i) S (.ep [.ep (tC d at_ m) 0] 0) (.ep [.ep (tC d at_ m) 0] 0):=by
 refine .ep 0 _ _ rfl fun j p q h1 h2=>?_
 rw [h1] at h2
 cases h2
 have hp:=mem_of_get h1
 rw [List.mem_singleton] at hp
 subst hp
 exact ren_tC h
set_option maxRecDepth 10000 in
set_option maxHeartbeats 2000000 in
theorem it_copies (D:DM) (at_:Nat) (now:PMan) (h:D.cells.length≤1000000000) (hop:D.op = []) (ha:at_≤1000000000):ItSpecG Tryz.prog 80 [.ep [.ep (tC 1000001 at_ now) 0] 0] (dG 1000001 1000002 1000003 D) (dMs 1000003 D) (Pre (copT D at_ 4)) (· = copT D at_ 4):=by
 have c1:=dC_low D
 have c2:=dM_low D
 refine itspecG_of_pwj typeTab_ok Tryz.func80 rfl (by kernel_rfl) ?_ (by simp [PV.ownB]) (Nat.le_of_ble_eq_true rfl) (by simp [ResIds,dG,dMs]) (lend_dG hop (by decide)) ?_
 ·intro p hp
  rw [List.mem_singleton] at hp
  subst hp
  exact .ep _ _ (fun c hc=>by rw [List.mem_singleton] at hc;subst hc;exact .ep _ _ (tC_lowI (by simp [ResIds,dG,dMs]) at_ now))
 intro Lb E Φ0 W l hgiv hy hr
 refine jw0 ?_
 refine PWJ.of_pw ?_
 refine wk ?_
 refine jw0 ?_
 refine PWJ.loop (fun k:Nat=>((((((bot.setb 1000001 (dB 1000002 1000003 D)).setb 1000002 (dC D)).setm 1000003 (dM D)).put 0 (.val (.func (.yield l) #[] #[]))).put 1 (.ep [.ep (tC 1000001 at_ now) 0] 0)).put 6 (pint k))) (fun k=>some (copT D at_ k)) (fun k=>k≤4) (fun k=>4 - k) 0 (by omega) ?_ rfl ?_
 ·(refine Sub.same ?_;(repeat (first|exact SubR.bot|((with_reducible refine SubR.isp ?_);refine SubR.put ?_ (by (first|exact .inl (ren_tC2 rfl)|exact .inl (ren_tC rfl)|exact .inl (.ptr _ _ rfl)|exact .inl (.msl _ _ _ _ rfl)|exact .inl (.mref _ rfl)|exact .inl (.low _ (by (first|exact low_mapI|exact low_mapS|exact low_mapB|assumption|exact hlow _|exact hlow _ _|exact Low.agg _ (low_map (fun _=>Low.val _) _)|(simp [low_pu32,low_pu64,low_val,low_nilsl,low_sl,low_ep,low_agg,low_tup,low_fn,low_pint,low_pstr,low_pbool,low_pints,low_pstrs,low_pbyte,low_pbytes,hlow];done)|(simp [low_pu32,low_pu64,low_val,low_nilsl,low_sl,low_ep,low_agg,low_tup,low_fn,low_pint,low_pstr,low_pbool,low_pints,low_pstrs,low_pbyte,low_pbytes];done)|simp [low_pu32,low_pu64,low_val,low_nilsl,low_sl,low_ep,low_agg,low_tup,low_fn,low_pint,low_pstr,low_pbool,low_pints,low_pstrs,low_pbyte,low_pbytes,low_pattrs,low_pdefs,low_pschema,low_pentry])))|exact .inr (.inl (.low _ (by (first|exact low_mapI|exact low_mapS|exact low_mapB|assumption|exact hlow _|exact hlow _ _|exact Low.agg _ (low_map (fun _=>Low.val _) _)|(simp [low_pu32,low_pu64,low_val,low_nilsl,low_sl,low_ep,low_agg,low_tup,low_fn,low_pint,low_pstr,low_pbool,low_pints,low_pstrs,low_pbyte,low_pbytes,hlow];done)|(simp [low_pu32,low_pu64,low_val,low_nilsl,low_sl,low_ep,low_agg,low_tup,low_fn,low_pint,low_pstr,low_pbool,low_pints,low_pstrs,low_pbyte,low_pbytes];done)|simp [low_pu32,low_pu64,low_val,low_nilsl,low_sl,low_ep,low_agg,low_tup,low_fn,low_pint,low_pstr,low_pbool,low_pints,low_pstrs,low_pbyte,low_pbytes,low_pattrs,low_pdefs,low_pschema,low_pentry]))))|exact .inr (.inr ⟨_,_,rfl,rfl⟩))))|((with_reducible refine SubR.isb ?_);refine SubR.setb ?_ rfl rfl (by (first|exact RenQL.low (by first|assumption|exact hlow _|exact hlow _ _|exact low_map (fun _=>Low.val _) _)|exact RenQL.lowE (by assumption) (low_map (fun _=>Low.val _) _)|((repeat (refine RenQL.cons (by (first|exact .inl (ren_tC2 rfl)|exact .inl (ren_tC rfl)|exact .inl (.ptr _ _ rfl)|exact .inl (.msl _ _ _ _ rfl)|exact .inl (.mref _ rfl)|exact .inl (.low _ (by (first|exact low_mapI|exact low_mapS|exact low_mapB|assumption|exact hlow _|exact hlow _ _|exact Low.agg _ (low_map (fun _=>Low.val _) _)|(simp [low_pu32,low_pu64,low_val,low_nilsl,low_sl,low_ep,low_agg,low_tup,low_fn,low_pint,low_pstr,low_pbool,low_pints,low_pstrs,low_pbyte,low_pbytes,hlow];done)|(simp [low_pu32,low_pu64,low_val,low_nilsl,low_sl,low_ep,low_agg,low_tup,low_fn,low_pint,low_pstr,low_pbool,low_pints,low_pstrs,low_pbyte,low_pbytes];done)|simp [low_pu32,low_pu64,low_val,low_nilsl,low_sl,low_ep,low_agg,low_tup,low_fn,low_pint,low_pstr,low_pbool,low_pints,low_pstrs,low_pbyte,low_pbytes,low_pattrs,low_pdefs,low_pschema,low_pentry])))|exact .inr (.inl (.low _ (by (first|exact low_mapI|exact low_mapS|exact low_mapB|assumption|exact hlow _|exact hlow _ _|exact Low.agg _ (low_map (fun _=>Low.val _) _)|(simp [low_pu32,low_pu64,low_val,low_nilsl,low_sl,low_ep,low_agg,low_tup,low_fn,low_pint,low_pstr,low_pbool,low_pints,low_pstrs,low_pbyte,low_pbytes,hlow];done)|(simp [low_pu32,low_pu64,low_val,low_nilsl,low_sl,low_ep,low_agg,low_tup,low_fn,low_pint,low_pstr,low_pbool,low_pints,low_pstrs,low_pbyte,low_pbytes];done)|simp [low_pu32,low_pu64,low_val,low_nilsl,low_sl,low_ep,low_agg,low_tup,low_fn,low_pint,low_pstr,low_pbool,low_pints,low_pstrs,low_pbyte,low_pbytes,low_pattrs,low_pdefs,low_pschema,low_pentry]))))|exact .inr (.inr ⟨_,_,rfl,rfl⟩))) ?_));exact RenQL.nil))))|((with_reducible refine SubR.ism ?_);refine SubR.setm ?_ rfl rfl (by (first|exact ⟨rfl,rfl,rfl,rfl,rfl⟩|exact RenM.low (by first|assumption|exact hlowm _|exact hlowm _ _)))))))
 ·intro k hk
  by_cases hlt:k < 4
  ·have hrd:=tc_readA D at_ k now h (by rw [hop];simp) ha (by omega)
   have hcp:copT D at_ (k+1)=copT D at_ k ++ (match readT D at_ k with
    |some x => [[pint k,pman x]]
    |none => []):=rfl
   refine jw0 ?_
   refine PWJ.of_pw ?_
   refine wk ?_
   refine jw0 ?_
   refine PWJ.of_pw ?_
   refine wk ?_
   refine jw0 ?_
   cases hrk:readT D at_ k with
   |none=>
    rw [hrk] at hrd hcp
    unfold readV at hrd
    simp only [Option.getD_none,Option.isSome_none,Option.getD_some,Option.isSome_some] at hrd
    refine PWJ.of_pw ?_
    refine wk ?_
    refine jw0 ?_
    refine PWJ.of_pw ?_
    refine wk ?_
    refine jw0 ?_
    refine PWJ.of_pw ?_
    refine wk ?_
    refine jw0 ?_
    refine loopJ (k+1) (by omega) (by omega) ?_ ?_
    ·try dsimp only
     (refine Sub.same ?_;(repeat (first|exact SubR.bot|((with_reducible refine SubR.isp ?_);refine SubR.put ?_ (by (first|exact .inl (ren_tC2 rfl)|exact .inl (ren_tC rfl)|exact .inl (.ptr _ _ rfl)|exact .inl (.msl _ _ _ _ rfl)|exact .inl (.mref _ rfl)|exact .inl (.low _ (by (first|exact low_mapI|exact low_mapS|exact low_mapB|assumption|exact hlow _|exact hlow _ _|exact Low.agg _ (low_map (fun _=>Low.val _) _)|(simp [low_pu32,low_pu64,low_val,low_nilsl,low_sl,low_ep,low_agg,low_tup,low_fn,low_pint,low_pstr,low_pbool,low_pints,low_pstrs,low_pbyte,low_pbytes,hlow];done)|(simp [low_pu32,low_pu64,low_val,low_nilsl,low_sl,low_ep,low_agg,low_tup,low_fn,low_pint,low_pstr,low_pbool,low_pints,low_pstrs,low_pbyte,low_pbytes];done)|simp [low_pu32,low_pu64,low_val,low_nilsl,low_sl,low_ep,low_agg,low_tup,low_fn,low_pint,low_pstr,low_pbool,low_pints,low_pstrs,low_pbyte,low_pbytes,low_pattrs,low_pdefs,low_pschema,low_pentry])))|exact .inr (.inl (.low _ (by (first|exact low_mapI|exact low_mapS|exact low_mapB|assumption|exact hlow _|exact hlow _ _|exact Low.agg _ (low_map (fun _=>Low.val _) _)|(simp [low_pu32,low_pu64,low_val,low_nilsl,low_sl,low_ep,low_agg,low_tup,low_fn,low_pint,low_pstr,low_pbool,low_pints,low_pstrs,low_pbyte,low_pbytes,hlow];done)|(simp [low_pu32,low_pu64,low_val,low_nilsl,low_sl,low_ep,low_agg,low_tup,low_fn,low_pint,low_pstr,low_pbool,low_pints,low_pstrs,low_pbyte,low_pbytes];done)|simp [low_pu32,low_pu64,low_val,low_nilsl,low_sl,low_ep,low_agg,low_tup,low_fn,low_pint,low_pstr,low_pbool,low_pints,low_pstrs,low_pbyte,low_pbytes,low_pattrs,low_pdefs,low_pschema,low_pentry]))))|exact .inr (.inr ⟨_,_,rfl,rfl⟩))))|((with_reducible refine SubR.isb ?_);refine SubR.setb ?_ rfl rfl (by (first|exact RenQL.low (by first|assumption|exact hlow _|exact hlow _ _|exact low_map (fun _=>Low.val _) _)|exact RenQL.lowE (by assumption) (low_map (fun _=>Low.val _) _)|((repeat (refine RenQL.cons (by (first|exact .inl (ren_tC2 rfl)|exact .inl (ren_tC rfl)|exact .inl (.ptr _ _ rfl)|exact .inl (.msl _ _ _ _ rfl)|exact .inl (.mref _ rfl)|exact .inl (.low _ (by (first|exact low_mapI|exact low_mapS|exact low_mapB|assumption|exact hlow _|exact hlow _ _|exact Low.agg _ (low_map (fun _=>Low.val _) _)|(simp [low_pu32,low_pu64,low_val,low_nilsl,low_sl,low_ep,low_agg,low_tup,low_fn,low_pint,low_pstr,low_pbool,low_pints,low_pstrs,low_pbyte,low_pbytes,hlow];done)|(simp [low_pu32,low_pu64,low_val,low_nilsl,low_sl,low_ep,low_agg,low_tup,low_fn,low_pint,low_pstr,low_pbool,low_pints,low_pstrs,low_pbyte,low_pbytes];done)|simp [low_pu32,low_pu64,low_val,low_nilsl,low_sl,low_ep,low_agg,low_tup,low_fn,low_pint,low_pstr,low_pbool,low_pints,low_pstrs,low_pbyte,low_pbytes,low_pattrs,low_pdefs,low_pschema,low_pentry])))|exact .inr (.inl (.low _ (by (first|exact low_mapI|exact low_mapS|exact low_mapB|assumption|exact hlow _|exact hlow _ _|exact Low.agg _ (low_map (fun _=>Low.val _) _)|(simp [low_pu32,low_pu64,low_val,low_nilsl,low_sl,low_ep,low_agg,low_tup,low_fn,low_pint,low_pstr,low_pbool,low_pints,low_pstrs,low_pbyte,low_pbytes,hlow];done)|(simp [low_pu32,low_pu64,low_val,low_nilsl,low_sl,low_ep,low_agg,low_tup,low_fn,low_pint,low_pstr,low_pbool,low_pints,low_pstrs,low_pbyte,low_pbytes];done)|simp [low_pu32,low_pu64,low_val,low_nilsl,low_sl,low_ep,low_agg,low_tup,low_fn,low_pint,low_pstr,low_pbool,low_pints,low_pstrs,low_pbyte,low_pbytes,low_pattrs,low_pdefs,low_pschema,low_pentry]))))|exact .inr (.inr ⟨_,_,rfl,rfl⟩))) ?_));exact RenQL.nil))))|((with_reducible refine SubR.ism ?_);refine SubR.setm ?_ rfl rfl (by (first|exact ⟨rfl,rfl,rfl,rfl,rfl⟩|exact RenM.low (by first|assumption|exact hlowm _|exact hlowm _ _)))))))
    ·simp only at hcp;rw [hcp,List.append_nil]
   |some m=>
    rw [hrk] at hrd hcp
    unfold readV at hrd
    simp only [Option.getD_none,Option.isSome_none,Option.getD_some,Option.isSome_some] at hrd
    have hlm:=low_pmanL m
    refine PWJ.of_pw ?_
    refine wk ?_
    refine jw0 ?_
    refine PWJ.regionG 5 (x := [pint k,pman m]) (d:=20) typeTab_ok hgiv hy hr (by kernel_rfl) (by rfl) (by rfl) ?_
    refine wk ?_
    refine ⟨⟨rfl,by decide,⟨_,_,rfl,rfl,rfl,rfl⟩,rfl,?_,?_,?_,?_⟩,fun b' => ?_⟩
    ·intro p hp
     simp only [List.mem_cons,List.not_mem_nil,or_false] at hp
     rcases hp with rfl|rfl
     ·exact .val _
     ·exact (low_pman m).2 trivial
    ·have:=copT_pre (D:=D) (at_:=at_) (show k+1≤4 by omega)
     rwa [hcp] at this
    ·show NoB _
     repeat (first|refine noB_put ?_|refine noB_setm ?_|refine noB_setb ?_ (by first|exact dB_noown _ _ _|exact dC_noown _|exact pman_noown _|simp [PV.ownB])|exact noB_bot)
    ·show NoM _
     have hdm:dM D = .map [] D.clock:=by unfold dM;rw [hop];rfl
     rw [hdm]
     repeat (first|refine noM_put ?_|refine noM_setb ?_|refine noM_setm ?_|exact noM_bot)
    cases b' with
    |true=>
     refine wk ?_
     refine jw0 ?_
     refine PWJ.of_pw ?_
     refine wk ?_
     refine jw0 ?_
     refine loopJ (k+1) (by omega) (by omega) ?_ ?_
     ·try dsimp only
      (refine Sub.same ?_;(repeat (first|exact SubR.bot|((with_reducible refine SubR.isp ?_);refine SubR.put ?_ (by (first|exact .inl (ren_tC2 rfl)|exact .inl (ren_tC rfl)|exact .inl (.ptr _ _ rfl)|exact .inl (.msl _ _ _ _ rfl)|exact .inl (.mref _ rfl)|exact .inl (.low _ (by (first|exact low_mapI|exact low_mapS|exact low_mapB|assumption|exact hlow _|exact hlow _ _|exact Low.agg _ (low_map (fun _=>Low.val _) _)|(simp [low_pu32,low_pu64,low_val,low_nilsl,low_sl,low_ep,low_agg,low_tup,low_fn,low_pint,low_pstr,low_pbool,low_pints,low_pstrs,low_pbyte,low_pbytes,hlow];done)|(simp [low_pu32,low_pu64,low_val,low_nilsl,low_sl,low_ep,low_agg,low_tup,low_fn,low_pint,low_pstr,low_pbool,low_pints,low_pstrs,low_pbyte,low_pbytes];done)|simp [low_pu32,low_pu64,low_val,low_nilsl,low_sl,low_ep,low_agg,low_tup,low_fn,low_pint,low_pstr,low_pbool,low_pints,low_pstrs,low_pbyte,low_pbytes,low_pattrs,low_pdefs,low_pschema,low_pentry])))|exact .inr (.inl (.low _ (by (first|exact low_mapI|exact low_mapS|exact low_mapB|assumption|exact hlow _|exact hlow _ _|exact Low.agg _ (low_map (fun _=>Low.val _) _)|(simp [low_pu32,low_pu64,low_val,low_nilsl,low_sl,low_ep,low_agg,low_tup,low_fn,low_pint,low_pstr,low_pbool,low_pints,low_pstrs,low_pbyte,low_pbytes,hlow];done)|(simp [low_pu32,low_pu64,low_val,low_nilsl,low_sl,low_ep,low_agg,low_tup,low_fn,low_pint,low_pstr,low_pbool,low_pints,low_pstrs,low_pbyte,low_pbytes];done)|simp [low_pu32,low_pu64,low_val,low_nilsl,low_sl,low_ep,low_agg,low_tup,low_fn,low_pint,low_pstr,low_pbool,low_pints,low_pstrs,low_pbyte,low_pbytes,low_pattrs,low_pdefs,low_pschema,low_pentry]))))|exact .inr (.inr ⟨_,_,rfl,rfl⟩))))|((with_reducible refine SubR.isb ?_);refine SubR.setb ?_ rfl rfl (by (first|exact RenQL.low (by first|assumption|exact hlow _|exact hlow _ _|exact low_map (fun _=>Low.val _) _)|exact RenQL.lowE (by assumption) (low_map (fun _=>Low.val _) _)|((repeat (refine RenQL.cons (by (first|exact .inl (ren_tC2 rfl)|exact .inl (ren_tC rfl)|exact .inl (.ptr _ _ rfl)|exact .inl (.msl _ _ _ _ rfl)|exact .inl (.mref _ rfl)|exact .inl (.low _ (by (first|exact low_mapI|exact low_mapS|exact low_mapB|assumption|exact hlow _|exact hlow _ _|exact Low.agg _ (low_map (fun _=>Low.val _) _)|(simp [low_pu32,low_pu64,low_val,low_nilsl,low_sl,low_ep,low_agg,low_tup,low_fn,low_pint,low_pstr,low_pbool,low_pints,low_pstrs,low_pbyte,low_pbytes,hlow];done)|(simp [low_pu32,low_pu64,low_val,low_nilsl,low_sl,low_ep,low_agg,low_tup,low_fn,low_pint,low_pstr,low_pbool,low_pints,low_pstrs,low_pbyte,low_pbytes];done)|simp [low_pu32,low_pu64,low_val,low_nilsl,low_sl,low_ep,low_agg,low_tup,low_fn,low_pint,low_pstr,low_pbool,low_pints,low_pstrs,low_pbyte,low_pbytes,low_pattrs,low_pdefs,low_pschema,low_pentry])))|exact .inr (.inl (.low _ (by (first|exact low_mapI|exact low_mapS|exact low_mapB|assumption|exact hlow _|exact hlow _ _|exact Low.agg _ (low_map (fun _=>Low.val _) _)|(simp [low_pu32,low_pu64,low_val,low_nilsl,low_sl,low_ep,low_agg,low_tup,low_fn,low_pint,low_pstr,low_pbool,low_pints,low_pstrs,low_pbyte,low_pbytes,hlow];done)|(simp [low_pu32,low_pu64,low_val,low_nilsl,low_sl,low_ep,low_agg,low_tup,low_fn,low_pint,low_pstr,low_pbool,low_pints,low_pstrs,low_pbyte,low_pbytes];done)|simp [low_pu32,low_pu64,low_val,low_nilsl,low_sl,low_ep,low_agg,low_tup,low_fn,low_pint,low_pstr,low_pbool,low_pints,low_pstrs,low_pbyte,low_pbytes,low_pattrs,low_pdefs,low_pschema,low_pentry]))))|exact .inr (.inr ⟨_,_,rfl,rfl⟩))) ?_));exact RenQL.nil))))|((with_reducible refine SubR.ism ?_);refine SubR.setm ?_ rfl rfl (by (first|exact ⟨rfl,rfl,rfl,rfl,rfl⟩|exact RenM.low (by first|assumption|exact hlowm _|exact hlowm _ _)))))))
     ·simp only [if_true];simp only at hcp;rw [hcp]
    |false=>
     refine wk ?_
     refine jw0 ?_
     exact ⟨⟨⟨_,rfl⟩,fun xs e=>by simp at e⟩,⟨⟨rfl,rfl⟩,⟨rfl,rfl⟩,trivial⟩,⟨⟨rfl,rfl⟩,trivial⟩⟩
  ·obtain rfl:k=4:=by omega
   refine jw0 ?_
   refine PWJ.of_pw ?_
   refine wk ?_
   refine jw0 ?_
   refine ⟨⟨⟨_,rfl⟩,fun xs e=>by cases e;rfl⟩,?_,?_⟩
   ·exact ⟨⟨rfl,rfl⟩,⟨rfl,rfl⟩,trivial⟩
   ·exact ⟨⟨rfl,rfl⟩,trivial⟩
def copX (y:Nat×PMan):List PV := [pint y.1,pman y.2]
theorem copT_eq (D:DM) (at_:Nat):copT D at_ 4=(copiesM (readT D at_)).map copX:=by
 have h:∀n,copT D at_ n=((List.range n).filterMap fun k=>(readT D at_ k).map fun m=>(k,m)).map copX:=by
  intro n
  induction n with
  |zero=>rfl
  |succ n ih=>
   rw [copT,ih,List.range_succ,List.filterMap_append,List.map_append]
   congr 1
   cases hr:readT D at_ n with
   |none=>simp [hr]
   |some x=>simp [hr,copX]
 exact h 4
theorem pre_x {C:List (Nat×PMan)} {pre:List (List PV)} {x:List PV} (h:Pre (C.map copX) (pre ++ [x])):∃j y,C[j]? = some y∧x=copX y∧pre.length=j∧j < C.length:=by
 obtain ⟨r,hr⟩:=h
 have hj:(C.map copX)[pre.length]? = some x:=by rw [hr];simp
 rw [List.getElem?_map] at hj
 cases hc:C[pre.length]? with
 |none=>rw [hc] at hj;cases hj
 |some y=>
  rw [hc] at hj
  cases hj
  exact ⟨pre.length,y,hc,rfl,rfl,(List.getElem?_eq_some_iff.1 hc).1⟩
theorem hcalls_weakA {P:Program} {f:FuncId} {args args' : List PV} {given res:List (Nat×List PV)} {gm rm:List (Nat×PMap)} {r:PV} (h:HCalls P f args given gm r res rm) (hw:WeakL args' args):HCalls P f args' given gm r res rm:=
 ⟨h.1,fun Φ μ ω w vs himm hgl hrep=>h.2 Φ μ ω w vs himm hgl ⟨hrep.1.trans hw.len,fun j p v h1 h2=>by
  obtain ⟨q,h3,h4⟩:=hw.get j p h1
  exact h4.1 _ _ _ (hrep.2 j q v h3 h2)⟩⟩
theorem pw_older (a b:PMan):PCalls Tryz.prog 52 [pman a,pman b] (· = pbool (decide (a.ver < b.ver))):=by
 have h1:=low_pmanL a
 have h2:=low_pmanL b
 refine pcalls_of_pw typeTab_ok Tryz.func52 rfl (by kernel_rfl) (by simp [(low_pman _).2 trivial]) (by simp [pman,PV.ownB]) (Nat.le_of_ble_eq_true rfl) ?_
 refine wk ?_
 by_cases h:a.ver < b.ver
 ·refine wk ?_
  exact retP (r:=pbool true) rfl (.val _) (by rw [decide_eq_true h])
 ·refine wk ?_
  exact retP (r:=pbool false) rfl (.val _) (by rw [decide_eq_false h])
def bestP (C:List (Nat×PMan)) (j:Nat):PMan:=(C.take j).foldl (fun x y=>newerM x y.2) zeroM
theorem bestP_succ {C:List (Nat×PMan)} {j:Nat} {y:Nat×PMan} (h:C[j]? = some y):bestP C (j+1)=newerM (bestP C j) y.2:=by
 unfold bestP
 rw [List.take_add_one,h,List.foldl_append]
 rfl
theorem hcalls_weakG {P:Program} {f:FuncId} {args:List PV} {id:Nat} {bs cs:List PV} {given res:List (Nat×List PV)} {gm rm:List (Nat×PMap)} {r:PV} (h:HCalls P f args ((id,cs) :: given) gm r res rm) (hw:WeakL bs cs):HCalls P f args ((id,bs) :: given) gm r res rm:=
 ⟨h.1,fun Φ μ ω w vs himm hgl hrep hg=>h.2 Φ μ ω w vs himm hgl hrep (fun x hx=>by
  rcases List.mem_cons.1 hx with rfl|hx
  ·exact (hg (id,bs) (List.mem_cons_self ..)).weak hw
  ·exact hg x (List.mem_cons_of_mem _ hx))⟩
set_option maxRecDepth 10000 in
set_option maxHeartbeats 1000000 in
theorem tc_copiesB1 (D:DM) (at_:Nat) (now:PMan):HCalls Tryz.prog 51 [.ptr 1000004 0] (tG 1000004 1000001 1000002 1000003 at_ now D) (dMs 1000003 D) (.fn 80 [.ep [.ptr 1000004 0] 0]) (tG 1000004 1000001 1000002 1000003 at_ now D) (dMs 1000003 D):=by
 have hlr:Low (prefs now.refs):=(low_prefs _).2 trivial
 have hlt:Low (pints now.notes):=(low_pints _).2 trivial
 have c1:=dC_low D
 have c2:=dM_low D
 refine th_of_pw Tryz.func51 rfl rfl (by intro p hp;rcases List.mem_cons.1 hp with rfl|hp;exact .ptr _ _ (by simp);cases hp) (by simp [PV.ownB]) (Nat.le_of_ble_eq_true rfl) (.fn _ _ (fun c hc=>by rw [List.mem_singleton] at hc;subst hc;exact .ep _ _ (fun c hc=>by rw [List.mem_singleton] at hc;subst hc;exact .ptr _ _ (by simp)))) ?_
 refine wg ?_
 refine PW.region typeTab_ok (by kernel_rfl) ?_
 refine wg ?_
 refine PW.freezeI (id:=0) (s:=1) (off:=0) (σ':=(((bot.setb 1000004 (tC 1000001 at_ now)).setb 1000001 (dB 1000002 1000003 D)).setb 1000002 (dC D)).setm 1000003 (dM D)) rfl rfl ?_ (by (repeat (first|exact SubR.bot|((with_reducible refine SubR.isp ?_);refine SubR.put ?_ (by (first|exact .inl (ren_tC rfl)|exact .inl (.ptr _ _ rfl)|exact .inl (.msl _ _ _ _ rfl)|exact .inl (.mref _ rfl)|exact .inl (.low _ (by (first|exact low_mapI|exact low_mapS|exact low_mapB|assumption|exact hlow _|exact hlow _ _|exact Low.agg _ (low_map (fun _=>Low.val _) _)|(simp [low_pu32,low_pu64,low_val,low_nilsl,low_sl,low_ep,low_agg,low_tup,low_fn,low_pint,low_pstr,low_pbool,low_pints,low_pstrs,low_pbyte,low_pbytes,hlow];done)|(simp [low_pu32,low_pu64,low_val,low_nilsl,low_sl,low_ep,low_agg,low_tup,low_fn,low_pint,low_pstr,low_pbool,low_pints,low_pstrs,low_pbyte,low_pbytes];done)|simp [low_pu32,low_pu64,low_val,low_nilsl,low_sl,low_ep,low_agg,low_tup,low_fn,low_pint,low_pstr,low_pbool,low_pints,low_pstrs,low_pbyte,low_pbytes,low_pattrs,low_pdefs,low_pschema,low_pentry])))|exact .inr (.inl (.low _ (by (first|exact low_mapI|exact low_mapS|exact low_mapB|assumption|exact hlow _|exact hlow _ _|exact Low.agg _ (low_map (fun _=>Low.val _) _)|(simp [low_pu32,low_pu64,low_val,low_nilsl,low_sl,low_ep,low_agg,low_tup,low_fn,low_pint,low_pstr,low_pbool,low_pints,low_pstrs,low_pbyte,low_pbytes,hlow];done)|(simp [low_pu32,low_pu64,low_val,low_nilsl,low_sl,low_ep,low_agg,low_tup,low_fn,low_pint,low_pstr,low_pbool,low_pints,low_pstrs,low_pbyte,low_pbytes];done)|simp [low_pu32,low_pu64,low_val,low_nilsl,low_sl,low_ep,low_agg,low_tup,low_fn,low_pint,low_pstr,low_pbool,low_pints,low_pstrs,low_pbyte,low_pbytes,low_pattrs,low_pdefs,low_pschema,low_pentry]))))|exact .inr (.inr ⟨_,_,rfl,rfl⟩))))|((with_reducible refine SubR.isb ?_);refine SubR.setb ?_ rfl rfl (by (first|exact RenQL.low (by first|assumption|exact hlow _|exact hlow _ _|exact low_map (fun _=>Low.val _) _)|exact RenQL.lowE (by assumption) (low_map (fun _=>Low.val _) _)|((repeat (refine RenQL.cons (by (first|exact .inl (ren_tC rfl)|exact .inl (.ptr _ _ rfl)|exact .inl (.msl _ _ _ _ rfl)|exact .inl (.mref _ rfl)|exact .inl (.low _ (by (first|exact low_mapI|exact low_mapS|exact low_mapB|assumption|exact hlow _|exact hlow _ _|exact Low.agg _ (low_map (fun _=>Low.val _) _)|(simp [low_pu32,low_pu64,low_val,low_nilsl,low_sl,low_ep,low_agg,low_tup,low_fn,low_pint,low_pstr,low_pbool,low_pints,low_pstrs,low_pbyte,low_pbytes,hlow];done)|(simp [low_pu32,low_pu64,low_val,low_nilsl,low_sl,low_ep,low_agg,low_tup,low_fn,low_pint,low_pstr,low_pbool,low_pints,low_pstrs,low_pbyte,low_pbytes];done)|simp [low_pu32,low_pu64,low_val,low_nilsl,low_sl,low_ep,low_agg,low_tup,low_fn,low_pint,low_pstr,low_pbool,low_pints,low_pstrs,low_pbyte,low_pbytes,low_pattrs,low_pdefs,low_pschema,low_pentry])))|exact .inr (.inl (.low _ (by (first|exact low_mapI|exact low_mapS|exact low_mapB|assumption|exact hlow _|exact hlow _ _|exact Low.agg _ (low_map (fun _=>Low.val _) _)|(simp [low_pu32,low_pu64,low_val,low_nilsl,low_sl,low_ep,low_agg,low_tup,low_fn,low_pint,low_pstr,low_pbool,low_pints,low_pstrs,low_pbyte,low_pbytes,hlow];done)|(simp [low_pu32,low_pu64,low_val,low_nilsl,low_sl,low_ep,low_agg,low_tup,low_fn,low_pint,low_pstr,low_pbool,low_pints,low_pstrs,low_pbyte,low_pbytes];done)|simp [low_pu32,low_pu64,low_val,low_nilsl,low_sl,low_ep,low_agg,low_tup,low_fn,low_pint,low_pstr,low_pbool,low_pints,low_pstrs,low_pbyte,low_pbytes,low_pattrs,low_pdefs,low_pschema,low_pentry]))))|exact .inr (.inr ⟨_,_,rfl,rfl⟩))) ?_));exact RenQL.nil))))|((with_reducible refine SubR.ism ?_);refine SubR.setm ?_ rfl rfl (by (first|exact ⟨rfl,rfl,rfl,rfl,rfl⟩|exact RenM.low (by first|assumption|exact hlowm _|exact hlowm _ _))))))) rfl ?_
 ·intro c hc
  rw [List.mem_singleton] at hc
  subst hc
  exact .ptr _ _ rfl
 refine wk ?_
 exact RetH.mk rfl (Weak.refl _) ⟨⟨_,rfl,WeakL.refl _⟩,⟨_,rfl,WeakL.refl _⟩,⟨_,rfl,WeakL.refl _⟩,trivial⟩ ⟨⟨rfl,rfl⟩,trivial⟩
def tIds (t d c m:Nat):List (Nat×Nat) := [(1000004,t),(1000001,d),(1000002,c),(1000003,m)]
theorem ren_tCL {ρ:Nat→Nat} {S:Nat→Prop} {d at_:Nat} {now:PMan} (h:S d):RenL ρ S (tC d at_ now) (tC (ρ d) at_ now):=
 .cons (.ptr _ _ h) (.cons (.low _ (.val _)) (.cons (.low _ (.val _)) (.cons (.low _ ((low_pints _).2 trivial)) (.cons (.low _ ((low_prefs _).2 trivial)) .nil))))
theorem th_at {f:FuncId} {args args' : List PV} {D D' : DM} {r r' : PV} {at_:Nat} {now now' : PMan} (h:HCalls Tryz.prog f args (tG 1000004 1000001 1000002 1000003 at_ now D) (dMs 1000003 D) r (tG 1000004 1000001 1000002 1000003 at_ now' D') (dMs 1000003 D')) (t d c m:Nat) (hd:([t,d,c,m]:List Nat).Nodup)
  (ha:RenL (renN (tIds t d c m)) (fun i=>i ∈ [1000004,1000001,1000002,1000003]) args args') (hr:Ren (renN (tIds t d c m)) (fun i=>i ∈ [1000004,1000001,1000002,1000003]) r r'):HCalls Tryz.prog f args' (tG t d c m at_ now D) (dMs m D) r' (tG t d c m at_ now' D') (dMs m D'):=by
 have e:∀now D,ResIds (tG 1000004 1000001 1000002 1000003 at_ now D) (dMs 1000003 D) = [1000004,1000001,1000002,1000003]:=fun _ _=>rfl
 have hB:∀now D,RenB (renN (tIds t d c m)) (fun i=>i ∈ [1000004,1000001,1000002,1000003]) (tG 1000004 1000001 1000002 1000003 at_ now D) (tG t d c m at_ now D):=fun now D=>by
  refine RenB.cons _ _ _ _ _ (ren_tCL (ρ:=renN (tIds t d c m)) (by simp)) (RenB.cons _ _ _ _ _ ?_ (RenB.cons _ _ _ _ _ (RenL.low (dC_low _)) RenB.nil))
  exact .cons (.msl _ _ _ _ (by simp)) (.cons (.mref _ (by simp)) (.cons (.low _ (.val _)) (.cons (.low _ (.val _)) (.cons (.low _ (.val _)) .nil))))
 have hM:∀D,RenMs (renN (tIds t d c m)) (fun i=>i ∈ [1000004,1000001,1000002,1000003]) (dMs 1000003 D) (dMs m D):=fun D=>RenMs.cons _ _ _ _ _ (RenM.low (dM_low _)) RenMs.nil
 exact h.at (tIds t d c m) (by simpa [tIds] using hd) (by rw [e];simp [tIds]) (by simp [tG,dG]) (by simp [dMs]) (by rw [e];exact ha) (by rw [e];exact hB _ _) (by rw [e];exact hM _) (by rw [e];exact hr) (by rw [e];exact hB _ _) (by rw [e];exact hM _)
theorem tC_noown (d at_:Nat) (m:PMan):∀x∈tC d at_ m,x.ownB=false:=by
 intro x hx
 simp only [tC,List.mem_cons,List.not_mem_nil,or_false] at hx
 rcases hx with rfl|rfl|rfl|rfl|rfl<;>rfl
theorem lend_tG {D:DM} (hop:D.op = []) {t d c m:Nat} (hd : [t,d,c,m].Nodup) (at_:Nat) (now:PMan):LentOK (tG t d c m at_ now D) (dMs m D) where
 nd:=hd
 lowb:=by
  intro x hx
  simp only [tG,dG,List.mem_cons,List.not_mem_nil,or_false] at hx
  rcases hx with rfl|rfl|rfl
  ·exact tC_lowI (by simp [ResIds,tG,dG,dMs]) at_ now
  ·exact dB_lowI (by simp [ResIds,tG,dG,dMs]) (by simp [ResIds,tG,dG,dMs]) D
  ·exact fun p hp=>(dC_low D p hp).lowI
 lowm:=by
  intro x hx
  simp only [dMs,List.mem_cons,List.not_mem_nil,or_false] at hx
  subst hx
  exact fun e he=>⟨(dM_low D e he).1.lowI,(dM_low D e he).2.lowI⟩
 nob:=by
  intro x hx
  simp only [tG,dG,List.mem_cons,List.not_mem_nil,or_false] at hx
  rcases hx with rfl|rfl|rfl
  ·exact tC_noown _ _ _
  ·exact dB_noown _ _ _
  ·exact dC_noown D
 nom:=(lend_dG hop (show [d,c,m].Nodup from (List.nodup_cons.1 hd).2)).nom
theorem ren_ptr1 {S:Nat→Prop} {d:Nat} (h:S d):Ren (fun i=>i) S (.ep [.ptr d 0] 0) (.ep [.ptr d 0] 0):=by
 refine .ep 0 _ _ rfl fun j p q h1 h2=>?_
 rw [h1] at h2
 cases h2
 have hp:=mem_of_get h1
 rw [List.mem_singleton] at hp
 subst hp
 exact .ptr _ _ h
set_option maxRecDepth 10000 in
set_option maxHeartbeats 2000000 in
theorem it_copiesB (D:DM) (at_:Nat) (now:PMan) (h:D.cells.length≤1000000000) (hop:D.op = []) (ha:at_≤1000000000):ItSpecG Tryz.prog 80 [.ep [.ptr 1000004 0] 0] (tG 1000004 1000001 1000002 1000003 at_ now D) (dMs 1000003 D) (Pre (copT D at_ 4)) (· = copT D at_ 4):=by
 have hlr:Low (prefs now.refs):=(low_prefs _).2 trivial
 have hlt:Low (pints now.notes):=(low_pints _).2 trivial
 have c1:=dC_low D
 have c2:=dM_low D
 refine itspecG_of_pwj typeTab_ok Tryz.func80 rfl (by kernel_rfl) ?_ (by simp [PV.ownB]) (Nat.le_of_ble_eq_true rfl) (by simp [ResIds,tG,dG,dMs]) (lend_tG hop (by decide) at_ now) ?_
 ·intro p hp
  rw [List.mem_singleton] at hp
  subst hp
  exact .ep _ _ (fun c hc=>by rw [List.mem_singleton] at hc;subst hc;exact .ptr _ _ (by simp [ResIds,tG,dG,dMs]))
 intro Lb E Φ0 W l hgiv hy hr
 refine jw0 ?_
 refine PWJ.of_pw ?_
 refine wk ?_
 refine jw0 ?_
 refine PWJ.loop (fun k:Nat=>(((((((bot.setb 1000004 (tC 1000001 at_ now)).setb 1000001 (dB 1000002 1000003 D)).setb 1000002 (dC D)).setm 1000003 (dM D)).put 0 (.val (.func (.yield l) #[] #[]))).put 1 (.ep [.ptr 1000004 0] 0)).put 6 (pint k))) (fun k=>some (copT D at_ k)) (fun k=>k≤4) (fun k=>4 - k) 0 (by omega) ?_ rfl ?_
 ·(refine Sub.same ?_;(repeat (first|exact SubR.bot|((with_reducible refine SubR.isp ?_);refine SubR.put ?_ (by (first|exact .inl (ren_ptr1 rfl)|exact .inl (.ptr _ _ rfl)|exact .inl (.msl _ _ _ _ rfl)|exact .inl (.mref _ rfl)|exact .inl (.low _ (by (first|exact low_mapI|exact low_mapS|exact low_mapB|assumption|exact hlow _|exact hlow _ _|exact Low.agg _ (low_map (fun _=>Low.val _) _)|(simp [low_pu32,low_pu64,low_val,low_nilsl,low_sl,low_ep,low_agg,low_tup,low_fn,low_pint,low_pstr,low_pbool,low_pints,low_pstrs,low_pbyte,low_pbytes,hlow];done)|(simp [low_pu32,low_pu64,low_val,low_nilsl,low_sl,low_ep,low_agg,low_tup,low_fn,low_pint,low_pstr,low_pbool,low_pints,low_pstrs,low_pbyte,low_pbytes];done)|simp [low_pu32,low_pu64,low_val,low_nilsl,low_sl,low_ep,low_agg,low_tup,low_fn,low_pint,low_pstr,low_pbool,low_pints,low_pstrs,low_pbyte,low_pbytes,low_pattrs,low_pdefs,low_pschema,low_pentry])))|exact .inr (.inl (.low _ (by (first|exact low_mapI|exact low_mapS|exact low_mapB|assumption|exact hlow _|exact hlow _ _|exact Low.agg _ (low_map (fun _=>Low.val _) _)|(simp [low_pu32,low_pu64,low_val,low_nilsl,low_sl,low_ep,low_agg,low_tup,low_fn,low_pint,low_pstr,low_pbool,low_pints,low_pstrs,low_pbyte,low_pbytes,hlow];done)|(simp [low_pu32,low_pu64,low_val,low_nilsl,low_sl,low_ep,low_agg,low_tup,low_fn,low_pint,low_pstr,low_pbool,low_pints,low_pstrs,low_pbyte,low_pbytes];done)|simp [low_pu32,low_pu64,low_val,low_nilsl,low_sl,low_ep,low_agg,low_tup,low_fn,low_pint,low_pstr,low_pbool,low_pints,low_pstrs,low_pbyte,low_pbytes,low_pattrs,low_pdefs,low_pschema,low_pentry]))))|exact .inr (.inr ⟨_,_,rfl,rfl⟩))))|((with_reducible refine SubR.isb ?_);refine SubR.setb ?_ rfl rfl (by exact rl0))|((with_reducible refine SubR.ism ?_);refine SubR.setm ?_ rfl rfl (by (first|exact ⟨rfl,rfl,rfl,rfl,rfl⟩|exact RenM.low (by first|assumption|exact hlowm _|exact hlowm _ _)))))))
 ·intro k hk
  by_cases hlt:k < 4
  ·have hrd:=tc_readB D at_ k now h (by rw [hop];simp) ha (by omega)
   have hcp:copT D at_ (k+1)=copT D at_ k ++ (match readT D at_ k with
    |some x => [[pint k,pman x]]
    |none => []):=rfl
   refine jw0 ?_
   refine PWJ.of_pw ?_
   refine wk ?_
   refine jw0 ?_
   refine PWJ.of_pw ?_
   refine wk ?_
   refine jw0 ?_
   cases hrk:readT D at_ k with
   |none=>
    rw [hrk] at hrd hcp
    unfold readV at hrd
    simp only [Option.getD_none,Option.isSome_none,Option.getD_some,Option.isSome_some] at hrd
    refine PWJ.of_pw ?_
    refine wk ?_
    refine jw0 ?_
    refine PWJ.of_pw ?_
    refine wk ?_
    refine jw0 ?_
    refine PWJ.of_pw ?_
    refine wk ?_
    refine jw0 ?_
    refine loopJ (k+1) (by omega) (by omega) ?_ ?_
    ·try dsimp only
     (refine Sub.same ?_;(repeat (first|exact SubR.bot|((with_reducible refine SubR.isp ?_);refine SubR.put ?_ (by (first|exact .inl (ren_ptr1 rfl)|exact .inl (.ptr _ _ rfl)|exact .inl (.msl _ _ _ _ rfl)|exact .inl (.mref _ rfl)|exact .inl (.low _ (by (first|exact low_mapI|exact low_mapS|exact low_mapB|assumption|exact hlow _|exact hlow _ _|exact Low.agg _ (low_map (fun _=>Low.val _) _)|(simp [low_pu32,low_pu64,low_val,low_nilsl,low_sl,low_ep,low_agg,low_tup,low_fn,low_pint,low_pstr,low_pbool,low_pints,low_pstrs,low_pbyte,low_pbytes,hlow];done)|(simp [low_pu32,low_pu64,low_val,low_nilsl,low_sl,low_ep,low_agg,low_tup,low_fn,low_pint,low_pstr,low_pbool,low_pints,low_pstrs,low_pbyte,low_pbytes];done)|simp [low_pu32,low_pu64,low_val,low_nilsl,low_sl,low_ep,low_agg,low_tup,low_fn,low_pint,low_pstr,low_pbool,low_pints,low_pstrs,low_pbyte,low_pbytes,low_pattrs,low_pdefs,low_pschema,low_pentry])))|exact .inr (.inl (.low _ (by (first|exact low_mapI|exact low_mapS|exact low_mapB|assumption|exact hlow _|exact hlow _ _|exact Low.agg _ (low_map (fun _=>Low.val _) _)|(simp [low_pu32,low_pu64,low_val,low_nilsl,low_sl,low_ep,low_agg,low_tup,low_fn,low_pint,low_pstr,low_pbool,low_pints,low_pstrs,low_pbyte,low_pbytes,hlow];done)|(simp [low_pu32,low_pu64,low_val,low_nilsl,low_sl,low_ep,low_agg,low_tup,low_fn,low_pint,low_pstr,low_pbool,low_pints,low_pstrs,low_pbyte,low_pbytes];done)|simp [low_pu32,low_pu64,low_val,low_nilsl,low_sl,low_ep,low_agg,low_tup,low_fn,low_pint,low_pstr,low_pbool,low_pints,low_pstrs,low_pbyte,low_pbytes,low_pattrs,low_pdefs,low_pschema,low_pentry]))))|exact .inr (.inr ⟨_,_,rfl,rfl⟩))))|((with_reducible refine SubR.isb ?_);refine SubR.setb ?_ rfl rfl (by exact rl0))|((with_reducible refine SubR.ism ?_);refine SubR.setm ?_ rfl rfl (by (first|exact ⟨rfl,rfl,rfl,rfl,rfl⟩|exact RenM.low (by first|assumption|exact hlowm _|exact hlowm _ _)))))))
    ·simp only at hcp;rw [hcp,List.append_nil]
   |some m=>
    rw [hrk] at hrd hcp
    unfold readV at hrd
    simp only [Option.getD_none,Option.isSome_none,Option.getD_some,Option.isSome_some] at hrd
    have hlm:=low_pmanL m
    refine PWJ.of_pw ?_
    refine wk ?_
    refine jw0 ?_
    refine PWJ.regionG 5 (x := [pint k,pman m]) (d:=20) typeTab_ok hgiv hy hr (by kernel_rfl) (by rfl) (by rfl) ?_
    refine wk ?_
    refine ⟨⟨rfl,by decide,⟨_,_,rfl,rfl,rfl,rfl⟩,rfl,?_,?_,?_,?_⟩,fun b' => ?_⟩
    ·intro p hp
     simp only [List.mem_cons,List.not_mem_nil,or_false] at hp
     rcases hp with rfl|rfl
     ·exact .val _
     ·exact (low_pman m).2 trivial
    ·have:=copT_pre (D:=D) (at_:=at_) (show k+1≤4 by omega)
     rwa [hcp] at this
    ·show NoB _
     repeat (first|refine noB_put ?_|refine noB_setm ?_|refine noB_setb ?_ (by first|exact tC_noown _ _ _|exact dB_noown _ _ _|exact dC_noown _|exact pman_noown _|simp [PV.ownB])|exact noB_bot)
    ·show NoM _
     have hdm:dM D = .map [] D.clock:=by unfold dM;rw [hop];rfl
     rw [hdm]
     repeat (first|refine noM_put ?_|refine noM_setb ?_|refine noM_setm ?_|exact noM_bot)
    cases b' with
    |true=>
     refine wk ?_
     refine jw0 ?_
     refine PWJ.of_pw ?_
     refine wk ?_
     refine jw0 ?_
     refine loopJ (k+1) (by omega) (by omega) ?_ ?_
     ·try dsimp only
      (refine Sub.same ?_;(repeat (first|exact SubR.bot|((with_reducible refine SubR.isp ?_);refine SubR.put ?_ (by (first|exact .inl (ren_ptr1 rfl)|exact .inl (.ptr _ _ rfl)|exact .inl (.msl _ _ _ _ rfl)|exact .inl (.mref _ rfl)|exact .inl (.low _ (by (first|exact low_mapI|exact low_mapS|exact low_mapB|assumption|exact hlow _|exact hlow _ _|exact Low.agg _ (low_map (fun _=>Low.val _) _)|(simp [low_pu32,low_pu64,low_val,low_nilsl,low_sl,low_ep,low_agg,low_tup,low_fn,low_pint,low_pstr,low_pbool,low_pints,low_pstrs,low_pbyte,low_pbytes,hlow];done)|(simp [low_pu32,low_pu64,low_val,low_nilsl,low_sl,low_ep,low_agg,low_tup,low_fn,low_pint,low_pstr,low_pbool,low_pints,low_pstrs,low_pbyte,low_pbytes];done)|simp [low_pu32,low_pu64,low_val,low_nilsl,low_sl,low_ep,low_agg,low_tup,low_fn,low_pint,low_pstr,low_pbool,low_pints,low_pstrs,low_pbyte,low_pbytes,low_pattrs,low_pdefs,low_pschema,low_pentry])))|exact .inr (.inl (.low _ (by (first|exact low_mapI|exact low_mapS|exact low_mapB|assumption|exact hlow _|exact hlow _ _|exact Low.agg _ (low_map (fun _=>Low.val _) _)|(simp [low_pu32,low_pu64,low_val,low_nilsl,low_sl,low_ep,low_agg,low_tup,low_fn,low_pint,low_pstr,low_pbool,low_pints,low_pstrs,low_pbyte,low_pbytes,hlow];done)|(simp [low_pu32,low_pu64,low_val,low_nilsl,low_sl,low_ep,low_agg,low_tup,low_fn,low_pint,low_pstr,low_pbool,low_pints,low_pstrs,low_pbyte,low_pbytes];done)|simp [low_pu32,low_pu64,low_val,low_nilsl,low_sl,low_ep,low_agg,low_tup,low_fn,low_pint,low_pstr,low_pbool,low_pints,low_pstrs,low_pbyte,low_pbytes,low_pattrs,low_pdefs,low_pschema,low_pentry]))))|exact .inr (.inr ⟨_,_,rfl,rfl⟩))))|((with_reducible refine SubR.isb ?_);refine SubR.setb ?_ rfl rfl (by exact rl0))|((with_reducible refine SubR.ism ?_);refine SubR.setm ?_ rfl rfl (by (first|exact ⟨rfl,rfl,rfl,rfl,rfl⟩|exact RenM.low (by first|assumption|exact hlowm _|exact hlowm _ _)))))))
     ·simp only [if_true];simp only at hcp;rw [hcp]
    |false=>
     refine wk ?_
     refine jw0 ?_
     exact ⟨⟨⟨_,rfl⟩,fun xs e=>by simp at e⟩,⟨⟨rfl,rfl⟩,⟨rfl,rfl⟩,⟨rfl,rfl⟩,trivial⟩,⟨⟨rfl,rfl⟩,trivial⟩⟩
  ·obtain rfl:k=4:=by omega
   refine jw0 ?_
   refine PWJ.of_pw ?_
   refine wk ?_
   refine jw0 ?_
   refine ⟨⟨⟨_,rfl⟩,fun xs e=>by cases e;rfl⟩,?_,?_⟩
   ·exact ⟨⟨rfl,rfl⟩,⟨rfl,rfl⟩,⟨rfl,rfl⟩,trivial⟩
   ·exact ⟨⟨rfl,rfl⟩,trivial⟩
set_option maxRecDepth 10000 in
set_option maxHeartbeats 2000000 in
theorem tc_bestB1 (D:DM) (at_:Nat) (now:PMan) (h:D.cells.length≤1000000000) (hop:D.op = []) (ha:at_≤1000000000):HCalls Tryz.prog 50 [.fn 80 [.ep [.ptr 1000004 0] 0],pman zeroM, .fn 52 []] (tG 1000004 1000001 1000002 1000003 at_ now D) (dMs 1000003 D) (pman (bestM (readT D at_))) (tG 1000004 1000001 1000002 1000003 at_ now D) (dMs 1000003 D):=by
 have hit:=it_copiesB D at_ now h hop ha
 rw [copT_eq] at hit
 obtain ⟨C,hC⟩:∃C,C=copiesM (readT D at_):=⟨_,rfl⟩
 have hbm:bestM (readT D at_)=bestP C C.length:=by rw [bestM,bestP,List.take_length,hC]
 rw [hbm]
 rw [←hC] at hit
 clear hbm hC
 have hlr:Low (prefs now.refs):=(low_prefs _).2 trivial
 have hlt:Low (pints now.notes):=(low_pints _).2 trivial
 have c1:=dC_low D
 have c2:=dM_low D
 have hln:=low_nilM
 have hlz:=low_pmanL zeroM
 have hfn:∀c ∈ [PV.fn 52 []],Low c:=fun c hc=>by rw [List.mem_singleton] at hc;subst hc;exact .fn _ _ (by simp)
 refine th_of_pw Tryz.func50 rfl (by kernel_rfl) ?_ (by simp [pman,PV.ownB]) (Nat.le_of_ble_eq_true rfl) ((low_pman _).2 trivial).lowI ?_
 ·intro p hp
  simp only [List.mem_cons,List.not_mem_nil,or_false] at hp
  rcases hp with rfl|rfl|rfl
  ·exact .fn _ _ (fun c hc=>by rw [List.mem_singleton] at hc;subst hc;exact .ep _ _ (fun c hc=>by rw [List.mem_singleton] at hc;subst hc;exact .ptr _ _ (by simp)))
  ·exact ((low_pman _).2 trivial).lowI
  ·exact .fn _ _ (by simp)
 refine wk ?_
 refine PW.rangeFuncG (A:=Pre (C.map copX)) (S:=(· = C.map copX)) 3000000 [3000002,3000001,3000000] (fun pre=>(((((bot.setb 3000000 (pmanL (bestP C pre.length))).setb 3000001 [.fn 52 []]).setb 3000002 nilM).put 4 (.ptr 3000000 0)).put 5 (.ptr 3000001 0)).put 6 (.ptr 3000002 0)) (fun _=>True) trivial rfl rfl hit (lend_tG hop (by decide) at_ now) ⟨⟨rfl,rfl⟩,⟨rfl,rfl⟩,⟨rfl,rfl⟩,trivial⟩ ⟨⟨rfl,rfl⟩,trivial⟩ (by simp [ResIds,tG,dG,dMs]) ?_ (fun pre=>by exact kn0) (by intro pre i hi;simp only [List.mem_cons,List.not_mem_nil,or_false] at hi;rcases hi with rfl|rfl|rfl|rfl|rfl<;>rfl) rfl (by decide) (fun pre=>?_) (by decide) ?_ ?_ ?_
 ·exact sbrF
 ·have hx1:∀c∈pmanL (bestP C pre.length),OwnsX c:=fun c hc=>ownsX_no (pman_noown _ c hc)
  have hx2:∀c∈nilM,OwnsX c:=fun c hc=>ownsX_no (by
   simp only [nilM,List.mem_cons,List.not_mem_nil,or_false] at hc
   rcases hc with rfl|rfl|rfl<;>rfl)
  exact ow0
 ·intro pre x hx
  obtain ⟨j,y,-,rfl,-⟩:=pre_x hx
  refine ⟨rfl,fun p hp=>?_⟩
  simp only [copX,List.mem_cons,List.not_mem_nil,or_false] at hp
  rcases hp with rfl|rfl
  ·exact ⟨.val _,rfl⟩
  ·exact ⟨(low_pman _).2 trivial,rfl⟩
 ·intro pre x _ hx
  obtain ⟨j,y,hj,rfl,rfl,hjl⟩:=pre_x hx
  have hb1:=bestP_succ hj
  have hold:=pw_older (bestP C pre.length) y.2
  have hl1:=low_pmanL (bestP C pre.length)
  have hl2:=low_pmanL y.2
  simp only [List.length_append,List.length_cons,List.length_nil,Nat.zero_add]
  rw [hb1]
  generalize bestP C pre.length=b at *
  obtain ⟨k,m⟩:=y
  unfold copX
  simp only [putps]
  simp only at hold hl2 ⊢
  refine wk ?_
  refine normP ?_
  by_cases hlt:b.ver < m.ver
  ·rw [show newerM b m=m from if_pos hlt]
   rw [decide_eq_true hlt] at hold
   refine wk ?_
   exact roundP trivial (by exact sb) (by exact lt0)
  ·rw [show newerM b m=b from if_neg hlt]
   rw [decide_eq_false hlt] at hold
   refine wk ?_
   exact roundP trivial (by exact sb) (by exact lt0)
 ·intro xs hxs _
  subst hxs
  rw [List.length_map]
  have hlb:=low_pmanL (bestP C C.length)
  generalize bestP C C.length=b at *
  refine ⟨(((((bot.setb 0 (pmanL b)).setb 1 [.fn 52 []]).setb 2 nilM).put 4 (.ptr 0 0)).put 5 (.ptr 1 0)).put 6 (.ptr 2 0),by exact sbrF,?_,?_⟩
  ·have hkn:∀i,Kn ((((((bot.setb 0 (pmanL b)).setb 1 [.fn 52 []]).setb 2 nilM).put 4 (.ptr 0 0)).put 5 (.ptr 1 0)).put 6 (.ptr 2 0)) i→i ∈ [2,1,0]:=by exact kn0
   intro i hi hk
   have h5:=hkn i hk
   simp [ResIds,tG,dG,dMs] at hi h5
   omega
  refine wk ?_
  exact RetH.mk rfl (Weak.refl _) ⟨⟨_,rfl,WeakL.refl _⟩,⟨_,rfl,WeakL.refl _⟩,⟨_,rfl,WeakL.refl _⟩,trivial⟩ ⟨⟨rfl,rfl⟩,trivial⟩
theorem tc_copiesAt (D:DM) (at_:Nat) (now:PMan) (t d c m:Nat) (hd:([t,d,c,m]:List Nat).Nodup):HCalls Tryz.prog 51 [.ptr t 0] (tG t d c m at_ now D) (dMs m D) (.fn 80 [.ep [.ptr t 0] 0]) (tG t d c m at_ now D) (dMs m D):=
 th_at (tc_copiesB1 D at_ now) t d c m hd (.cons (.ptr _ _ (by simp)) .nil) (.fn _ _ _ rfl (fun j p q e1 e2=>by
  cases j with
  |zero=>
   simp only [List.getElem?_cons_zero,Option.some.injEq] at e1 e2
   subst e1 e2
   refine .ep _ _ _ rfl (fun j p q e1 e2=>?_)
   cases j with
   |zero=>
    simp only [List.getElem?_cons_zero,Option.some.injEq] at e1 e2
    subst e1 e2
    exact .ptr _ _ (by simp)
   |succ j=>simp at e1
  |succ j=>simp at e1))
theorem tc_bestAt (D:DM) (at_:Nat) (now:PMan) (h:D.cells.length≤1000000000) (hop:D.op = []) (ha:at_≤1000000000) (t d c m:Nat) (hd:([t,d,c,m]:List Nat).Nodup):HCalls Tryz.prog 50 [.fn 80 [.ep [.ptr t 0] 0], .agg nilM, .fn 52 []] (tG t d c m at_ now D) (dMs m D) (pman (bestM (readT D at_))) (tG t d c m at_ now D) (dMs m D):=by
 have h2:HCalls Tryz.prog 50 [.fn 80 [.ep [.ptr t 0] 0], .agg nilM, .fn 52 []] (tG t d c m at_ now D) (dMs m D) (pman (bestM (readT D at_))) (tG t d c m at_ now D) (dMs m D):=by
  have h0:HCalls Tryz.prog 50 [.fn 80 [.ep [.ptr 1000004 0] 0], .agg nilM, .fn 52 []] (tG 1000004 1000001 1000002 1000003 at_ now D) (dMs 1000003 D) (pman (bestM (readT D at_))) (tG 1000004 1000001 1000002 1000003 at_ now D) (dMs 1000003 D):=hcalls_weakA (tc_bestB1 D at_ now h hop ha) (.cons (.refl _) (.cons weak_nilM (.cons (.refl _) .nil)))
  refine th_at h0 t d c m hd (.cons ?_ (.cons (.low _ (.agg _ low_nilM)) (.cons (.low _ (.fn _ _ (by simp))) .nil))) (.low _ ((low_pman _).2 trivial))
  refine .fn _ _ _ rfl (fun j p q e1 e2=>?_)
  cases j with
  |zero=>
   simp only [List.getElem?_cons_zero,Option.some.injEq] at e1 e2
   subst e1 e2
   refine .ep _ _ _ rfl (fun j p q e1 e2=>?_)
   cases j with
   |zero=>
    simp only [List.getElem?_cons_zero,Option.some.injEq] at e1 e2
    subst e1 e2
    exact .ptr _ _ (by simp)
   |succ j=>simp at e1
  |succ j=>simp at e1
 exact h2
set_option maxRecDepth 10000 in
set_option maxHeartbeats 2000000 in
theorem tc_Open1 (D:DM) (at_:Nat) (h:D.cells.length≤1000000000) (hop:D.op = []) (ha:at_+1024≤D.cells.length) (hdead:D.dead=false):HCalls Tryz.prog 22 [.ptr 1000001 0,pint at_] (dG 1000001 1000002 1000003 D) (dMs 1000003 D) (.tup [.ptr 5003 0,pint 0]) (tG 5003 1000001 1000002 1000003 at_ (bestM (readT D at_)) D) (dMs 1000003 D):=by
 have c1:=dC_low D
 have c2:=dM_low D
 have hsz:=dc_Size D 1000001 1000002 1000003 (by decide)
 have hdn:=dc_Down D 1000001 1000002 1000003 (by decide)
 rw [hdead] at hdn
 have hcp:=hcalls_weakG (bs := [.ptr 1000001 0,pint at_,pint 0, .nilsl, .nilsl]) (tc_copiesAt D at_ zeroM 5003 1000001 1000002 1000003 (by decide)) (.cons (.refl _) (.cons (.refl _) (.cons (.refl _) (.cons (.nil 1) (.cons (.nil 18) .nil)))))
 have hbe:=tc_bestAt D at_ zeroM h hop (by omega) 5003 1000001 1000002 1000003 (by decide)
 generalize bestM (readT D at_)=B at *
 have hbl:=low_pmanL B
 refine hcalls_of_pw typeTab_ok Tryz.func22 rfl (by kernel_rfl) (by simp [PV.ownB,pint]) (Nat.le_of_ble_eq_true rfl) (by simp [ResIds,dG,dMs]) (by simp [ResIds,dG,dMs]) ?_ ?_
 ·have e1:ResIds (dG 1000001 1000002 1000003 D) (dMs 1000003 D) = [1000001,1000002,1000003]:=rfl
  have e2:ResIds (tG 5003 1000001 1000002 1000003 at_ B D) (dMs 1000003 D) = [5003,1000001,1000002,1000003]:=rfl
  refine ⟨?_,?_,?_,?_,?_,?_,by simp [tG,dG],by simp [dMs]⟩
  ·rw [e1];exact li_cons (.ptr _ _ (by simp)) (li_cons (.val _) li_nil)
  ·rw [e1];exact lb_cons (dB_lowI (by simp) (by simp) _) (lb_cons (li_low c1) lb_nil)
  ·exact lm_cons c2 lm_nil
  ·rw [e2];exact .tup _ (li_cons (.ptr _ _ (by simp)) (li_cons (.val _) li_nil))
  ·rw [e2];exact lb_cons (tC_lowI (by simp) _ _) (lb_cons (dB_lowI (by simp) (by simp) _) (lb_cons (li_low c1) lb_nil))
  ·exact lm_cons c2 lm_nil
 ·refine wk ?_
  exact RetH.mk rfl (Weak.refl _) ⟨⟨_,rfl,WeakL.refl _⟩,⟨_,rfl,WeakL.refl _⟩,⟨_,rfl,WeakL.refl _⟩,trivial⟩ ⟨⟨rfl,rfl⟩,trivial⟩
theorem tc_Open (D:DM) (at_:Nat) (h:D.cells.length≤1000000000) (hop:D.op = []) (ha:at_+1024≤D.cells.length) (hdead:D.dead=false) (t d c m:Nat) (hd:([t,d,c,m]:List Nat).Nodup):HCalls Tryz.prog 22 [.ptr d 0,pint at_] (dG d c m D) (dMs m D) (.tup [.ptr t 0,pint 0]) (tG t d c m at_ (bestM (readT D at_)) D) (dMs m D):=by
 have e1:ResIds (dG 1000001 1000002 1000003 D) (dMs 1000003 D) = [1000001,1000002,1000003]:=rfl
 generalize hB:bestM (readT D at_)=B
 have h0:=tc_Open1 D at_ h hop ha hdead
 rw [hB] at h0
 have e2:ResIds (tG 5003 1000001 1000002 1000003 at_ B D) (dMs 1000003 D) = [5003,1000001,1000002,1000003]:=rfl
 have hdB:∀S:Nat→Prop,S 1000002→S 1000003→RenL (renN [(5003,t),(1000001,d),(1000002,c),(1000003,m)]) S (dB 1000002 1000003 D) (dB c m D):=fun S s1 s2=>
  .cons (.msl _ _ _ _ s1) (.cons (.mref _ s2) (.cons (.low _ (.val _)) (.cons (.low _ (.val _)) (.cons (.low _ (.val _)) .nil))))
 refine h0.at [(5003,t),(1000001,d),(1000002,c),(1000003,m)] (by simpa using hd) (by rw [e2];simp) (by simp [tG,dG]) (by simp [dMs]) ?_ ?_ ?_ ?_ ?_ ?_
 ·rw [e1];exact .cons (.ptr _ _ (by simp)) (.cons (.low _ (.val _)) .nil)
 ·rw [e1];exact RenB.cons _ _ _ _ _ (hdB _ (by simp) (by simp)) (RenB.cons _ _ _ _ _ (RenL.low (dC_low _)) RenB.nil)
 ·exact RenMs.cons _ _ _ _ _ (RenM.low (dM_low _)) RenMs.nil
 ·rw [e2]
  refine .tup _ _ rfl (fun j p q e1 e2=>?_)
  match j with
  |0=>simp only [List.getElem?_cons_zero,Option.some.injEq] at e1 e2;subst e1 e2;exact .ptr _ _ (by simp)
  |1=>simp only [List.getElem?_cons_succ,List.getElem?_cons_zero,Option.some.injEq] at e1 e2;subst e1 e2;exact .low _ (.val _)
  |j+2=>simp at e1
 ·rw [e2];exact RenB.cons _ _ _ _ _ (ren_tCL (ρ:=renN [(5003,t),(1000001,d),(1000002,c),(1000003,m)]) (by simp)) (RenB.cons _ _ _ _ _ (hdB _ (by simp) (by simp)) (RenB.cons _ _ _ _ _ (RenL.low (dC_low _)) RenB.nil))
 ·exact RenMs.cons _ _ _ _ _ (RenM.low (dM_low _)) RenMs.nil
theorem pw_isSlot (k s:Int):PCalls Tryz.prog 86 [pint k, .ep [pint s] 0] (· = pbool (decide (k=s))):=by
 refine pcalls_of_pw typeTab_ok Tryz.func86 rfl (by kernel_rfl) (by simp [low_pint,low_ep]) (by simp [pint,PV.ownB]) (Nat.le_of_ble_eq_true rfl) ?_
 by_cases h:k=s
 ·refine wk ?_
  exact retP (r:=pbool true) rfl (.val _) (by rw [decide_eq_true h])
 ·refine wk ?_
  exact retP (r:=pbool false) rfl (.val _) (by rw [decide_eq_false h])
def idxN (n:Nat) (a b s:Int):Int:=if 0 < n∧a=s then 0 else if 1 < n∧b=s then 1 else -1
def delN (n:Nat) (a b s:Int):Nat×Int×Int:=if 0 < n∧a=s then (if 1 < n∧b≠s then (1,b,0) else (0,0,if 1 < n then 0 else b)) else if 1 < n∧b=s then (1,a,0) else (n,a,b)
set_option maxRecDepth 10000 in
set_option maxHeartbeats 1000000 in
theorem hc_idx (n:Nat) (a b s:Int) (h:n≤2):HCalls Tryz.prog 90 [.msl 1000001 0 n 1, .fn 86 [.ep [pint s] 0]] [(1000001,[pint a,pint b])] [] (pint (idxN n a b s)) [(1000001,[pint a,pint b])] []:=by
 have hc2:∀c ∈ [pint a,pint b],Low c:=by intro c hc;simp only [List.mem_cons,List.not_mem_nil,or_false] at hc;rcases hc with rfl|rfl<;>exact .val _
 refine hcalls_of_pw typeTab_ok Tryz.func90 rfl (by kernel_rfl) (by simp [PV.ownB]) (Nat.le_of_ble_eq_true rfl) (by simp [ResIds]) (by simp [ResIds]) ⟨li_cons (.msl _ _ _ _ (by simp [ResIds])) (li_cons (.fn _ _ (li_cons (.ep _ _ (li_cons (.val _) li_nil)) li_nil)) li_nil),lb_cons (li_low hc2) lb_nil,lm_nil, .val _,lb_cons (li_low hc2) lb_nil,lm_nil,by simp,by simp⟩ ?_
 have ha:=pw_isSlot a s
 have hb:=pw_isSlot b s
 obtain rfl|rfl|rfl:n=0∨n=1∨n=2:=by omega
 ·have e:idxN 0 a b s = -1:=by simp [idxN]
  rw [e]
  refine wk ?_
  refine PW.unroll ?_
  refine wk ?_
  exact RetH.mk rfl (Weak.refl _) ⟨⟨_,rfl,WeakL.refl _⟩,trivial⟩ trivial
 ·by_cases h1:a=s
  ·rw [decide_eq_true h1] at ha
   have e:idxN 1 a b s=0:=by simp [idxN,h1]
   rw [e]
   refine wk ?_
   refine PW.unroll ?_
   refine wk ?_
   exact RetH.mk rfl (Weak.refl _) ⟨⟨_,rfl,WeakL.refl _⟩,trivial⟩ trivial
  ·rw [decide_eq_false h1] at ha
   have e:idxN 1 a b s = -1:=by simp [idxN,h1]
   rw [e]
   refine wk ?_
   refine PW.unroll ?_
   refine wk ?_
   refine loopU ?_
   refine wk ?_
   exact RetH.mk rfl (Weak.refl _) ⟨⟨_,rfl,WeakL.refl _⟩,trivial⟩ trivial
 ·by_cases h1:a=s
  ·rw [decide_eq_true h1] at ha
   have e:idxN 2 a b s=0:=by simp [idxN,h1]
   rw [e]
   refine wk ?_
   refine PW.unroll ?_
   refine wk ?_
   exact RetH.mk rfl (Weak.refl _) ⟨⟨_,rfl,WeakL.refl _⟩,trivial⟩ trivial
  ·rw [decide_eq_false h1] at ha
   by_cases h2:b=s
   ·rw [decide_eq_true h2] at hb
    have e:idxN 2 a b s=1:=by simp [idxN,h1,h2]
    rw [e]
    refine wk ?_
    refine PW.unroll ?_
    refine wk ?_
    refine loopU ?_
    refine wk ?_
    exact RetH.mk rfl (Weak.refl _) ⟨⟨_,rfl,WeakL.refl _⟩,trivial⟩ trivial
   ·rw [decide_eq_false h2] at hb
    have e:idxN 2 a b s = -1:=by simp [idxN,h1,h2]
    rw [e]
    refine wk ?_
    refine PW.unroll ?_
    refine wk ?_
    refine loopU ?_
    refine wk ?_
    refine loopU ?_
    refine wk ?_
    exact RetH.mk rfl (Weak.refl _) ⟨⟨_,rfl,WeakL.refl _⟩,trivial⟩ trivial
set_option maxRecDepth 10000 in
set_option maxHeartbeats 2000000 in
theorem hc_del1 (n:Nat) (a b s:Int) (h:n≤2):HCalls Tryz.prog 85 [.msl 1000001 0 n 1, .fn 86 [.ep [pint s] 0]] [(1000001,[pint a,pint b])] [] (.msl 1000001 0 (delN n a b s).1 1) [(1000001,[pint (delN n a b s).2.1,pint (delN n a b s).2.2])] []:=by
 have hc2:∀a b,∀c ∈ [pint a,pint b],Low c:=by intro a b c hc;simp only [List.mem_cons,List.not_mem_nil,or_false] at hc;rcases hc with rfl|rfl<;>exact .val _
 refine hcalls_of_pw typeTab_ok Tryz.func85 rfl (by kernel_rfl) (by simp [PV.ownB]) (Nat.le_of_ble_eq_true rfl) (by simp [ResIds]) (by simp [ResIds]) ⟨li_cons (.msl _ _ _ _ (by simp [ResIds])) (li_cons (.fn _ _ (li_cons (.ep _ _ (li_cons (.val _) li_nil)) li_nil)) li_nil),lb_cons (li_low (hc2 _ _)) lb_nil,lm_nil, .msl _ _ _ _ (by simp [ResIds]),lb_cons (li_low (hc2 _ _)) lb_nil,lm_nil,by simp,by simp⟩ ?_
 have ha:=pw_isSlot a s
 have hb:=pw_isSlot b s
 have hi:=hc_idx n a b s h
 obtain rfl|rfl|rfl:n=0∨n=1∨n=2:=by omega
 ·have e:idxN 0 a b s = -1:=by simp [idxN]
  have e2:delN 0 a b s=(0,a,b):=by simp [delN]
  rw [e] at hi
  rw [e2]
  refine wk ?_
  exact RetH.mk rfl (Weak.refl _) ⟨⟨_,rfl,WeakL.refl _⟩,trivial⟩ trivial
 ·by_cases h1:a=s
  ·rw [decide_eq_true h1] at ha
   have e:idxN 1 a b s=0:=by simp [idxN,h1]
   have e2:delN 1 a b s=(0,0,b):=by simp [delN,h1]
   rw [e] at hi
   rw [e2]
   refine wk ?_
   refine PW.unroll ?_
   refine wk ?_
   refine PWops.slcMs rfl rfl rfl rfl rfl rfl rfl rfl rfl ?_
   refine PWops.clrM typeTab_ok rfl (fun _ _=>rfl) rfl rfl rfl rfl rfl rfl (Nat.le_of_ble_eq_true rfl) rfl ?_
   refine wk ?_
   refine PWops.slcMs rfl rfl rfl rfl rfl rfl rfl rfl rfl ?_
   refine wk ?_
   exact RetH.mk rfl (Weak.refl _) ⟨⟨_,rfl,WeakL.refl _⟩,trivial⟩ trivial
  ·rw [decide_eq_false h1] at ha
   have e:idxN 1 a b s = -1:=by simp [idxN,h1]
   have e2:delN 1 a b s=(1,a,b):=by simp [delN,h1]
   rw [e] at hi
   rw [e2]
   refine wk ?_
   exact RetH.mk rfl (Weak.refl _) ⟨⟨_,rfl,WeakL.refl _⟩,trivial⟩ trivial
 ·by_cases h1:a=s
  ·rw [decide_eq_true h1] at ha
   have e:idxN 2 a b s=0:=by simp [idxN,h1]
   rw [e] at hi
   by_cases h2:b=s
   ·rw [decide_eq_true h2] at hb
    have e2:delN 2 a b s=(0,0,0):=by simp [delN,h1,h2]
    rw [e2]
    refine wk ?_
    refine PW.unroll ?_
    refine wk ?_
    refine loopU ?_
    refine wk ?_
    refine PWops.slcMs rfl rfl rfl rfl rfl rfl rfl rfl rfl ?_
    refine PWops.clrM typeTab_ok rfl (fun _ _=>rfl) rfl rfl rfl rfl rfl rfl (Nat.le_of_ble_eq_true rfl) rfl ?_
    refine wk ?_
    refine PWops.slcMs rfl rfl rfl rfl rfl rfl rfl rfl rfl ?_
    refine wk ?_
    exact RetH.mk rfl (Weak.refl _) ⟨⟨_,rfl,WeakL.refl _⟩,trivial⟩ trivial
   ·rw [decide_eq_false h2] at hb
    have e2:delN 2 a b s=(1,b,0):=by simp [delN,h1,h2]
    rw [e2]
    refine wk ?_
    refine PW.unroll ?_
    refine wk ?_
    refine loopU ?_
    refine wk ?_
    refine PWops.slcMs rfl rfl rfl rfl rfl rfl rfl rfl rfl ?_
    refine PWops.clrM typeTab_ok rfl (fun _ _=>rfl) rfl rfl rfl rfl rfl rfl (Nat.le_of_ble_eq_true rfl) rfl ?_
    refine wk ?_
    refine PWops.slcMs rfl rfl rfl rfl rfl rfl rfl rfl rfl ?_
    refine wk ?_
    exact RetH.mk rfl (Weak.refl _) ⟨⟨_,rfl,WeakL.refl _⟩,trivial⟩ trivial
  ·rw [decide_eq_false h1] at ha
   by_cases h2:b=s
   ·rw [decide_eq_true h2] at hb
    have e:idxN 2 a b s=1:=by simp [idxN,h1,h2]
    have e2:delN 2 a b s=(1,a,0):=by simp [delN,h1,h2]
    rw [e] at hi
    rw [e2]
    refine wk ?_
    refine PW.unroll ?_
    refine wk ?_
    refine PWops.slcMs rfl rfl rfl rfl rfl rfl rfl rfl rfl ?_
    refine PWops.clrM typeTab_ok rfl (fun _ _=>rfl) rfl rfl rfl rfl rfl rfl (Nat.le_of_ble_eq_true rfl) rfl ?_
    refine wk ?_
    refine PWops.slcMs rfl rfl rfl rfl rfl rfl rfl rfl rfl ?_
    refine wk ?_
    exact RetH.mk rfl (Weak.refl _) ⟨⟨_,rfl,WeakL.refl _⟩,trivial⟩ trivial
   ·rw [decide_eq_false h2] at hb
    have e:idxN 2 a b s = -1:=by simp [idxN,h1,h2]
    have e2:delN 2 a b s=(2,a,b):=by simp [delN,h1,h2]
    rw [e] at hi
    rw [e2]
    refine wk ?_
    exact RetH.mk rfl (Weak.refl _) ⟨⟨_,rfl,WeakL.refl _⟩,trivial⟩ trivial
theorem hc_del (id n:Nat) (a b s:Int) (h:n≤2):HCalls Tryz.prog 85 [.msl id 0 n 1, .fn 86 [.ep [pint s] 0]] [(id,[pint a,pint b])] [] (.msl id 0 (delN n a b s).1 1) [(id,[pint (delN n a b s).2.1,pint (delN n a b s).2.2])] []:=by
 have hlo:∀a b:Int,∀c ∈ [pint a,pint b],Low c:=by intro a b c hc;simp only [List.mem_cons,List.not_mem_nil,or_false] at hc;rcases hc with rfl|rfl<;>exact .val _
 have hfn:Low (.fn 86 [.ep [pint s] 0]):=.fn _ _ (fun c hc=>by rw [List.mem_singleton] at hc;subst hc;exact .ep _ _ (fun c hc=>by rw [List.mem_singleton] at hc;subst hc;exact .val _))
 exact (hc_del1 n a b s h).at [(1000001,id)] (by simp) (by simp [ResIds]) (by simp) (by simp) (.cons (.msl _ _ _ _ (by simp [ResIds])) (.cons (.low _ hfn) .nil)) (RenB.cons _ _ _ _ _ (RenL.low (hlo _ _)) RenB.nil) RenMs.nil (.msl _ _ _ _ (by simp [ResIds])) (RenB.cons _ _ _ _ _ (RenL.low (hlo _ _)) RenB.nil) RenMs.nil
theorem tC_lowK (D:DM) {at_:Nat} {m:PMan} : ∀c∈tC 1000001 at_ m,LowI (Kn (((bot.setb 1000001 (dB 1000002 1000003 D)).setb 1000002 (dC D)).setm 1000003 (dM D))) c:=by
 have h:Kn (((bot.setb 1000001 (dB 1000002 1000003 D)).setb 1000002 (dC D)).setm 1000003 (dM D)) 1000001:=rfl
 exact tC_lowI h at_ m
set_option maxRecDepth 10000 in
set_option maxHeartbeats 1000000 in
theorem tc_copiesA (D:DM) (at_:Nat) (now:PMan):HCalls Tryz.prog 51 [.ep (tC 1000001 at_ now) 0] (dG 1000001 1000002 1000003 D) (dMs 1000003 D) (.fn 80 [.ep [.ep (tC 1000001 at_ now) 0] 0]) (dG 1000001 1000002 1000003 D) (dMs 1000003 D):=by
 have c1:=dC_low D
 have c2:=dM_low D
 refine dh_of_pw Tryz.func51 rfl rfl (by intro p hp;rcases List.mem_cons.1 hp with rfl|hp;exact .ep _ _ (tC_lowI (by simp) at_ now);cases hp) (by simp [PV.ownB]) (Nat.le_of_ble_eq_true rfl) (.fn _ _ (fun c hc=>by rw [List.mem_singleton] at hc;subst hc;exact .ep _ _ (fun c hc=>by rw [List.mem_singleton] at hc;subst hc;exact .ep _ _ (tC_lowI (by simp) at_ now)))) ?_
 refine wg ?_
 refine PW.region typeTab_ok (by kernel_rfl) ?_
 refine wg ?_
 refine PW.freezeI (id:=0) (s:=1) (off:=0) (σ':=((bot.setb 1000001 (dB 1000002 1000003 D)).setb 1000002 (dC D)).setm 1000003 (dM D)) rfl rfl ?_ (by (repeat (first|exact SubR.bot|((with_reducible refine SubR.isp ?_);refine SubR.put ?_ (by (first|exact .inl (ren_tC rfl)|exact .inl (.ptr _ _ rfl)|exact .inl (.msl _ _ _ _ rfl)|exact .inl (.mref _ rfl)|exact .inl (.low _ (by (first|exact low_mapI|exact low_mapS|exact low_mapB|assumption|exact hlow _|exact hlow _ _|exact Low.agg _ (low_map (fun _=>Low.val _) _)|(simp [low_pu32,low_pu64,low_val,low_nilsl,low_sl,low_ep,low_agg,low_tup,low_fn,low_pint,low_pstr,low_pbool,low_pints,low_pstrs,low_pbyte,low_pbytes,hlow];done)|(simp [low_pu32,low_pu64,low_val,low_nilsl,low_sl,low_ep,low_agg,low_tup,low_fn,low_pint,low_pstr,low_pbool,low_pints,low_pstrs,low_pbyte,low_pbytes];done)|simp [low_pu32,low_pu64,low_val,low_nilsl,low_sl,low_ep,low_agg,low_tup,low_fn,low_pint,low_pstr,low_pbool,low_pints,low_pstrs,low_pbyte,low_pbytes,low_pattrs,low_pdefs,low_pschema,low_pentry])))|exact .inr (.inl (.low _ (by (first|exact low_mapI|exact low_mapS|exact low_mapB|assumption|exact hlow _|exact hlow _ _|exact Low.agg _ (low_map (fun _=>Low.val _) _)|(simp [low_pu32,low_pu64,low_val,low_nilsl,low_sl,low_ep,low_agg,low_tup,low_fn,low_pint,low_pstr,low_pbool,low_pints,low_pstrs,low_pbyte,low_pbytes,hlow];done)|(simp [low_pu32,low_pu64,low_val,low_nilsl,low_sl,low_ep,low_agg,low_tup,low_fn,low_pint,low_pstr,low_pbool,low_pints,low_pstrs,low_pbyte,low_pbytes];done)|simp [low_pu32,low_pu64,low_val,low_nilsl,low_sl,low_ep,low_agg,low_tup,low_fn,low_pint,low_pstr,low_pbool,low_pints,low_pstrs,low_pbyte,low_pbytes,low_pattrs,low_pdefs,low_pschema,low_pentry]))))|exact .inr (.inr ⟨_,_,rfl,rfl⟩))))|((with_reducible refine SubR.isb ?_);refine SubR.setb ?_ rfl rfl (by (first|exact RenQL.low (by first|assumption|exact hlow _|exact hlow _ _|exact low_map (fun _=>Low.val _) _)|exact RenQL.lowE (by assumption) (low_map (fun _=>Low.val _) _)|((repeat (refine RenQL.cons (by (first|exact .inl (ren_tC rfl)|exact .inl (.ptr _ _ rfl)|exact .inl (.msl _ _ _ _ rfl)|exact .inl (.mref _ rfl)|exact .inl (.low _ (by (first|exact low_mapI|exact low_mapS|exact low_mapB|assumption|exact hlow _|exact hlow _ _|exact Low.agg _ (low_map (fun _=>Low.val _) _)|(simp [low_pu32,low_pu64,low_val,low_nilsl,low_sl,low_ep,low_agg,low_tup,low_fn,low_pint,low_pstr,low_pbool,low_pints,low_pstrs,low_pbyte,low_pbytes,hlow];done)|(simp [low_pu32,low_pu64,low_val,low_nilsl,low_sl,low_ep,low_agg,low_tup,low_fn,low_pint,low_pstr,low_pbool,low_pints,low_pstrs,low_pbyte,low_pbytes];done)|simp [low_pu32,low_pu64,low_val,low_nilsl,low_sl,low_ep,low_agg,low_tup,low_fn,low_pint,low_pstr,low_pbool,low_pints,low_pstrs,low_pbyte,low_pbytes,low_pattrs,low_pdefs,low_pschema,low_pentry])))|exact .inr (.inl (.low _ (by (first|exact low_mapI|exact low_mapS|exact low_mapB|assumption|exact hlow _|exact hlow _ _|exact Low.agg _ (low_map (fun _=>Low.val _) _)|(simp [low_pu32,low_pu64,low_val,low_nilsl,low_sl,low_ep,low_agg,low_tup,low_fn,low_pint,low_pstr,low_pbool,low_pints,low_pstrs,low_pbyte,low_pbytes,hlow];done)|(simp [low_pu32,low_pu64,low_val,low_nilsl,low_sl,low_ep,low_agg,low_tup,low_fn,low_pint,low_pstr,low_pbool,low_pints,low_pstrs,low_pbyte,low_pbytes];done)|simp [low_pu32,low_pu64,low_val,low_nilsl,low_sl,low_ep,low_agg,low_tup,low_fn,low_pint,low_pstr,low_pbool,low_pints,low_pstrs,low_pbyte,low_pbytes,low_pattrs,low_pdefs,low_pschema,low_pentry]))))|exact .inr (.inr ⟨_,_,rfl,rfl⟩))) ?_));exact RenQL.nil))))|((with_reducible refine SubR.ism ?_);refine SubR.setm ?_ rfl rfl (by (first|exact ⟨rfl,rfl,rfl,rfl,rfl⟩|exact RenM.low (by first|assumption|exact hlowm _|exact hlowm _ _))))))) rfl ?_
 ·intro c hc
  rw [List.mem_singleton] at hc
  subst hc
  exact .ep _ _ (fun c hc=>tC_lowK D c hc)
 refine wk ?_
 exact RetH.mk rfl (Weak.refl _) ⟨⟨_,rfl,WeakL.refl _⟩,⟨_,rfl,WeakL.refl _⟩,trivial⟩ ⟨⟨rfl,rfl⟩,trivial⟩
def tW (at_:Nat) (m:PMan):List PV := [.undef,pint at_,pint m.ver,pints m.notes,prefs m.refs]
theorem tW_weak (d at_:Nat) (m:PMan):Weak (.ep [.ep (tC d at_ m) 0] 0) (.ep [.ep (tW at_ m) 0] 0):=
 .ep (.cons (.ep (.cons (.undef _) (WeakL.refl _))) .nil)
def spP (C:List (Nat×PMan)) (v f:Int) (j:Nat):Nat×Int×Int:=(C.take j).foldl (fun st y=>if y.2.ver=v then delN st.1 st.2.1 st.2.2 y.1 else st) (2,f,f+1)
theorem spP_succ {C:List (Nat×PMan)} {v f:Int} {j:Nat} {y:Nat×PMan} (h:C[j]? = some y):spP C v f (j+1)=if y.2.ver=v then delN (spP C v f j).1 (spP C v f j).2.1 (spP C v f j).2.2 y.1 else spP C v f j:=by
 unfold spP
 rw [List.take_add_one,h,List.foldl_append]
 rfl
theorem delN_le {n:Nat} {a b s:Int} (h:n≤2):(delN n a b s).1≤2:=by
 unfold delN;split
 ·split<;>simp
 ·split
  ·simp
  ·exact h
theorem spP_le (C:List (Nat×PMan)) (v f:Int) (j:Nat):(spP C v f j).1≤2:=by
 unfold spP
 generalize C.take j=l
 have h:∀(l:List (Nat×PMan)) (st:Nat×Int×Int),st.1≤2→(l.foldl (fun st y=>if y.2.ver=v then delN st.1 st.2.1 st.2.2 y.1 else st) st).1≤2:=by
  intro l
  induction l with
  |nil=>intro st h;exact h
  |cons y l ih=>
   intro st h
   rw [List.foldl_cons]
   refine ih _ ?_
   split
   ·exact delN_le h
   ·exact h
 exact h l _ (Nat.le_refl 2)
set_option maxRecDepth 10000 in
set_option maxHeartbeats 2000000 in
theorem tc_spoilt0 (D:DM) (at_:Nat) (now:PMan) (hv:now.ver=0):HCalls Tryz.prog 58 [.ep (tC 1000001 at_ now) 0] (dG 1000001 1000002 1000003 D) (dMs 1000003 D) .nilsl (dG 1000001 1000002 1000003 D) (dMs 1000003 D):=by
 have c1:=dC_low D
 have c2:=dM_low D
 refine dh_of_pw Tryz.func58 rfl (by kernel_rfl) (by intro p hp;rcases List.mem_cons.1 hp with rfl|hp;exact .ep _ _ (tC_lowI (by simp) at_ now);cases hp) (by simp [PV.ownB]) (Nat.le_of_ble_eq_true rfl) .nilsl ?_
 refine wg ?_
 refine PW.region typeTab_ok (by kernel_rfl) ?_
 refine wg ?_
 refine PW.freezeI (id:=0) (s:=1) (off:=0) (σ':=((bot.setb 1000001 (dB 1000002 1000003 D)).setb 1000002 (dC D)).setm 1000003 (dM D)) rfl rfl ?_ (by (repeat (first|exact SubR.bot|((with_reducible refine SubR.isp ?_);refine SubR.put ?_ (by (first|exact .inl (ren_tC rfl)|exact .inl (.ptr _ _ rfl)|exact .inl (.msl _ _ _ _ rfl)|exact .inl (.mref _ rfl)|exact .inl (.low _ (by (first|exact low_mapI|exact low_mapS|exact low_mapB|assumption|exact hlow _|exact hlow _ _|exact Low.agg _ (low_map (fun _=>Low.val _) _)|(simp [low_pu32,low_pu64,low_val,low_nilsl,low_sl,low_ep,low_agg,low_tup,low_fn,low_pint,low_pstr,low_pbool,low_pints,low_pstrs,low_pbyte,low_pbytes,hlow];done)|(simp [low_pu32,low_pu64,low_val,low_nilsl,low_sl,low_ep,low_agg,low_tup,low_fn,low_pint,low_pstr,low_pbool,low_pints,low_pstrs,low_pbyte,low_pbytes];done)|simp [low_pu32,low_pu64,low_val,low_nilsl,low_sl,low_ep,low_agg,low_tup,low_fn,low_pint,low_pstr,low_pbool,low_pints,low_pstrs,low_pbyte,low_pbytes,low_pattrs,low_pdefs,low_pschema,low_pentry])))|exact .inr (.inl (.low _ (by (first|exact low_mapI|exact low_mapS|exact low_mapB|assumption|exact hlow _|exact hlow _ _|exact Low.agg _ (low_map (fun _=>Low.val _) _)|(simp [low_pu32,low_pu64,low_val,low_nilsl,low_sl,low_ep,low_agg,low_tup,low_fn,low_pint,low_pstr,low_pbool,low_pints,low_pstrs,low_pbyte,low_pbytes,hlow];done)|(simp [low_pu32,low_pu64,low_val,low_nilsl,low_sl,low_ep,low_agg,low_tup,low_fn,low_pint,low_pstr,low_pbool,low_pints,low_pstrs,low_pbyte,low_pbytes];done)|simp [low_pu32,low_pu64,low_val,low_nilsl,low_sl,low_ep,low_agg,low_tup,low_fn,low_pint,low_pstr,low_pbool,low_pints,low_pstrs,low_pbyte,low_pbytes,low_pattrs,low_pdefs,low_pschema,low_pentry]))))|exact .inr (.inr ⟨_,_,rfl,rfl⟩))))|((with_reducible refine SubR.isb ?_);refine SubR.setb ?_ rfl rfl (by (first|exact RenQL.low (by first|assumption|exact hlow _|exact hlow _ _|exact low_map (fun _=>Low.val _) _)|exact RenQL.lowE (by assumption) (low_map (fun _=>Low.val _) _)|((repeat (refine RenQL.cons (by (first|exact .inl (ren_tC rfl)|exact .inl (.ptr _ _ rfl)|exact .inl (.msl _ _ _ _ rfl)|exact .inl (.mref _ rfl)|exact .inl (.low _ (by (first|exact low_mapI|exact low_mapS|exact low_mapB|assumption|exact hlow _|exact hlow _ _|exact Low.agg _ (low_map (fun _=>Low.val _) _)|(simp [low_pu32,low_pu64,low_val,low_nilsl,low_sl,low_ep,low_agg,low_tup,low_fn,low_pint,low_pstr,low_pbool,low_pints,low_pstrs,low_pbyte,low_pbytes,hlow];done)|(simp [low_pu32,low_pu64,low_val,low_nilsl,low_sl,low_ep,low_agg,low_tup,low_fn,low_pint,low_pstr,low_pbool,low_pints,low_pstrs,low_pbyte,low_pbytes];done)|simp [low_pu32,low_pu64,low_val,low_nilsl,low_sl,low_ep,low_agg,low_tup,low_fn,low_pint,low_pstr,low_pbool,low_pints,low_pstrs,low_pbyte,low_pbytes,low_pattrs,low_pdefs,low_pschema,low_pentry])))|exact .inr (.inl (.low _ (by (first|exact low_mapI|exact low_mapS|exact low_mapB|assumption|exact hlow _|exact hlow _ _|exact Low.agg _ (low_map (fun _=>Low.val _) _)|(simp [low_pu32,low_pu64,low_val,low_nilsl,low_sl,low_ep,low_agg,low_tup,low_fn,low_pint,low_pstr,low_pbool,low_pints,low_pstrs,low_pbyte,low_pbytes,hlow];done)|(simp [low_pu32,low_pu64,low_val,low_nilsl,low_sl,low_ep,low_agg,low_tup,low_fn,low_pint,low_pstr,low_pbool,low_pints,low_pstrs,low_pbyte,low_pbytes];done)|simp [low_pu32,low_pu64,low_val,low_nilsl,low_sl,low_ep,low_agg,low_tup,low_fn,low_pint,low_pstr,low_pbool,low_pints,low_pstrs,low_pbyte,low_pbytes,low_pattrs,low_pdefs,low_pschema,low_pentry]))))|exact .inr (.inr ⟨_,_,rfl,rfl⟩))) ?_));exact RenQL.nil))))|((with_reducible refine SubR.ism ?_);refine SubR.setm ?_ rfl rfl (by (first|exact ⟨rfl,rfl,rfl,rfl,rfl⟩|exact RenM.low (by first|assumption|exact hlowm _|exact hlowm _ _))))))) rfl ?_
 ·intro c hc
  rw [List.mem_singleton] at hc
  subst hc
  exact .ep _ _ (fun c hc=>tC_lowK D c hc)
 refine wk ?_
 exact RetH.mk rfl (Weak.refl _) ⟨⟨_,rfl,WeakL.refl _⟩,⟨_,rfl,WeakL.refl _⟩,trivial⟩ ⟨⟨rfl,rfl⟩,trivial⟩
set_option maxRecDepth 10000 in
set_option maxHeartbeats 2000000 in
theorem tc_spoiltA (D:DM) (at_:Nat) (now:PMan) (h:D.cells.length≤1000000000) (hop:D.op = []) (ha:at_≤1000000000) (hv:0 < now.ver) (hv2:now.ver≤1000000000) (C:List (Nat×PMan)) (hC:C=copiesM (readT D at_)) (n:Nat) (a b:Int) (hst:spP C now.ver (firstI now.ver) C.length=(n,a,b)) :
  HCalls Tryz.prog 58 [.ep (tC 1000001 at_ now) 0] (dG 1000001 1000002 1000003 D) (dMs 1000003 D) (.msl 4003 0 n 1) ((4003,[pint a,pint b]) :: dG 1000001 1000002 1000003 D) (dMs 1000003 D):=by
 have hit:=it_copies D at_ now h hop ha
 rw [copT_eq,←hC] at hit
 clear hC
 have c1:=dC_low D
 have c2:=dM_low D
 have hcp:=tc_copiesA D at_ now
 have hfi:=pw_first now.ver (by omega) hv2
 have hfr:0≤firstI now.ver∧firstI now.ver≤2:=by unfold firstI;omega
 have hab:∀a b,∀c ∈ [pint a,pint b],Low c:=by intro a b c hc;simp only [List.mem_cons,List.not_mem_nil,or_false] at hc;rcases hc with rfl|rfl<;>exact .val _
 have e1:ResIds (dG 1000001 1000002 1000003 D) (dMs 1000003 D) = [1000001,1000002,1000003]:=rfl
 have e2:ResIds ((4003,[pint a,pint b]) :: dG 1000001 1000002 1000003 D) (dMs 1000003 D) = [4003,1000001,1000002,1000003]:=rfl
 refine hcalls_of_pw typeTab_ok Tryz.func58 rfl (by kernel_rfl) (by simp [PV.ownB]) (Nat.le_of_ble_eq_true rfl) (by simp [ResIds,dG,dMs]) (by simp [ResIds,dG,dMs]) ⟨?_,?_,lm_cons c2 lm_nil,?_,?_,lm_cons c2 lm_nil,by simp [dG],by simp [dMs]⟩ ?_
 ·rw [e1];exact li_cons (.ep _ _ (tC_lowI (by simp) at_ now)) li_nil
 ·rw [e1];exact lb_cons (dB_lowI (by simp) (by simp) _) (lb_cons (li_low c1) lb_nil)
 ·rw [e2];exact .msl _ _ _ _ (by simp)
 ·rw [e2];exact lb_cons (li_low (hab a b)) (lb_cons (dB_lowI (by simp) (by simp) _) (lb_cons (li_low c1) lb_nil))
 have hf0:firstI now.ver=firstI now.ver:=rfl
 generalize firstI now.ver=f at *
 refine wg ?_
 refine PW.region typeTab_ok (by kernel_rfl) ?_
 refine wg ?_
 refine PW.freezeI (id:=0) (s:=1) (off:=0) (σ':=((bot.setb 1000001 (dB 1000002 1000003 D)).setb 1000002 (dC D)).setm 1000003 (dM D)) rfl rfl ?_ (by (repeat (first|exact SubR.bot|((with_reducible refine SubR.isp ?_);refine SubR.put ?_ (by (first|exact .inl (ren_tC rfl)|exact .inl (.ptr _ _ rfl)|exact .inl (.msl _ _ _ _ rfl)|exact .inl (.mref _ rfl)|exact .inl (.low _ (by (first|exact low_mapI|exact low_mapS|exact low_mapB|assumption|exact hlow _|exact hlow _ _|exact Low.agg _ (low_map (fun _=>Low.val _) _)|(simp [low_pu32,low_pu64,low_val,low_nilsl,low_sl,low_ep,low_agg,low_tup,low_fn,low_pint,low_pstr,low_pbool,low_pints,low_pstrs,low_pbyte,low_pbytes,hlow];done)|(simp [low_pu32,low_pu64,low_val,low_nilsl,low_sl,low_ep,low_agg,low_tup,low_fn,low_pint,low_pstr,low_pbool,low_pints,low_pstrs,low_pbyte,low_pbytes];done)|simp [low_pu32,low_pu64,low_val,low_nilsl,low_sl,low_ep,low_agg,low_tup,low_fn,low_pint,low_pstr,low_pbool,low_pints,low_pstrs,low_pbyte,low_pbytes,low_pattrs,low_pdefs,low_pschema,low_pentry])))|exact .inr (.inl (.low _ (by (first|exact low_mapI|exact low_mapS|exact low_mapB|assumption|exact hlow _|exact hlow _ _|exact Low.agg _ (low_map (fun _=>Low.val _) _)|(simp [low_pu32,low_pu64,low_val,low_nilsl,low_sl,low_ep,low_agg,low_tup,low_fn,low_pint,low_pstr,low_pbool,low_pints,low_pstrs,low_pbyte,low_pbytes,hlow];done)|(simp [low_pu32,low_pu64,low_val,low_nilsl,low_sl,low_ep,low_agg,low_tup,low_fn,low_pint,low_pstr,low_pbool,low_pints,low_pstrs,low_pbyte,low_pbytes];done)|simp [low_pu32,low_pu64,low_val,low_nilsl,low_sl,low_ep,low_agg,low_tup,low_fn,low_pint,low_pstr,low_pbool,low_pints,low_pstrs,low_pbyte,low_pbytes,low_pattrs,low_pdefs,low_pschema,low_pentry]))))|exact .inr (.inr ⟨_,_,rfl,rfl⟩))))|((with_reducible refine SubR.isb ?_);refine SubR.setb ?_ rfl rfl (by (first|exact RenQL.low (by first|assumption|exact hlow _|exact hlow _ _|exact low_map (fun _=>Low.val _) _)|exact RenQL.lowE (by assumption) (low_map (fun _=>Low.val _) _)|((repeat (refine RenQL.cons (by (first|exact .inl (ren_tC rfl)|exact .inl (.ptr _ _ rfl)|exact .inl (.msl _ _ _ _ rfl)|exact .inl (.mref _ rfl)|exact .inl (.low _ (by (first|exact low_mapI|exact low_mapS|exact low_mapB|assumption|exact hlow _|exact hlow _ _|exact Low.agg _ (low_map (fun _=>Low.val _) _)|(simp [low_pu32,low_pu64,low_val,low_nilsl,low_sl,low_ep,low_agg,low_tup,low_fn,low_pint,low_pstr,low_pbool,low_pints,low_pstrs,low_pbyte,low_pbytes,hlow];done)|(simp [low_pu32,low_pu64,low_val,low_nilsl,low_sl,low_ep,low_agg,low_tup,low_fn,low_pint,low_pstr,low_pbool,low_pints,low_pstrs,low_pbyte,low_pbytes];done)|simp [low_pu32,low_pu64,low_val,low_nilsl,low_sl,low_ep,low_agg,low_tup,low_fn,low_pint,low_pstr,low_pbool,low_pints,low_pstrs,low_pbyte,low_pbytes,low_pattrs,low_pdefs,low_pschema,low_pentry])))|exact .inr (.inl (.low _ (by (first|exact low_mapI|exact low_mapS|exact low_mapB|assumption|exact hlow _|exact hlow _ _|exact Low.agg _ (low_map (fun _=>Low.val _) _)|(simp [low_pu32,low_pu64,low_val,low_nilsl,low_sl,low_ep,low_agg,low_tup,low_fn,low_pint,low_pstr,low_pbool,low_pints,low_pstrs,low_pbyte,low_pbytes,hlow];done)|(simp [low_pu32,low_pu64,low_val,low_nilsl,low_sl,low_ep,low_agg,low_tup,low_fn,low_pint,low_pstr,low_pbool,low_pints,low_pstrs,low_pbyte,low_pbytes];done)|simp [low_pu32,low_pu64,low_val,low_nilsl,low_sl,low_ep,low_agg,low_tup,low_fn,low_pint,low_pstr,low_pbool,low_pints,low_pstrs,low_pbyte,low_pbytes,low_pattrs,low_pdefs,low_pschema,low_pentry]))))|exact .inr (.inr ⟨_,_,rfl,rfl⟩))) ?_));exact RenQL.nil))))|((with_reducible refine SubR.ism ?_);refine SubR.setm ?_ rfl rfl (by (first|exact ⟨rfl,rfl,rfl,rfl,rfl⟩|exact RenM.low (by first|assumption|exact hlowm _|exact hlowm _ _))))))) rfl ?_
 ·intro c hc
  rw [List.mem_singleton] at hc
  subst hc
  exact .ep _ _ (fun c hc=>tC_lowK D c hc)
 refine PW.region typeTab_ok (by kernel_rfl) ?_
 refine wg ?_
 refine PW.region typeTab_ok (by kernel_rfl) ?_
 refine wg ?_
 refine PW.region typeTab_ok (by kernel_rfl) ?_
 (refine ops0 ?_)
 (refine ops0 ?_)
 (refine ops0 ?_)
 refine PWops.bslM (cs := [pint f,pint (f+1)]) typeTab_ok rfl (fun _ _=>rfl) rfl rfl rfl rfl rfl rfl (by decide) rfl ?_
 refine wk ?_
 have hlw:Low (.ep [.ep (tW at_ now) 0] 0):=.ep _ _ (fun c hc=>by
  rw [List.mem_singleton] at hc;subst hc
  refine .ep _ _ (fun c hc=>?_)
  simp only [tW,List.mem_cons,List.not_mem_nil,or_false] at hc
  rcases hc with rfl|rfl|rfl|rfl|rfl
  ·exact .undef
  ·exact .val _
  ·exact .val _
  ·exact (low_pints _).2 trivial
  ·exact (low_prefs _).2 trivial)
 refine PW.weakT (s:=1) rfl (tW_weak 1000001 at_ now) ?_
 refine PW.rangeFuncG (A:=Pre (C.map copX)) (S:=(· = C.map copX)) 3000000 [3004004,3004003] (fun pre=>(((bot.setb 3004003 [pint (spP C now.ver f pre.length).2.1,pint (spP C now.ver f pre.length).2.2]).setb 3004004 [.msl 3004003 0 (spP C now.ver f pre.length).1 1]).put 1 (.ep [.ep (tW at_ now) 0] 0)).put 4 (.ptr 3004004 0)) (fun _=>True) trivial rfl rfl hit (lend_dG hop (by decide)) ⟨⟨rfl,rfl⟩,⟨rfl,rfl⟩,trivial⟩ ⟨⟨rfl,rfl⟩,trivial⟩ (by simp [ResIds,dG,dMs]) ?_ (fun pre=>by exact kn0) (by intro pre i hi;simp only [List.mem_cons,List.not_mem_nil,or_false] at hi;rcases hi with rfl|rfl|rfl|rfl|rfl<;>rfl) rfl (by decide) (fun pre=>?_) (by decide) ?_ ?_ ?_
 ·have h0:=hab f (f+1)
  exact sbrF
 ·have hx1:∀a b:Int,∀c ∈ [pint a,pint b],OwnsX c:=fun a b c hc=>ownsX_no (by
   simp only [List.mem_cons,List.not_mem_nil,or_false] at hc
   rcases hc with rfl|rfl<;>rfl)
  have hx2:=hx1 (spP C now.ver f pre.length).2.1 (spP C now.ver f pre.length).2.2
  exact ow0
 ·intro pre x hx
  obtain ⟨j,y,-,rfl,-⟩:=pre_x hx
  refine ⟨rfl,fun p hp=>?_⟩
  simp only [copX,List.mem_cons,List.not_mem_nil,or_false] at hp
  rcases hp with rfl|rfl
  ·exact ⟨.val _,rfl⟩
  ·exact ⟨(low_pman _).2 trivial,rfl⟩
 ·intro pre x _ hx
  obtain ⟨j,y,hj,rfl,rfl,hjl⟩:=pre_x hx
  have hb1:=spP_succ (v:=now.ver) (f:=f) hj
  have hle:=spP_le C now.ver f pre.length
  simp only [List.length_append,List.length_cons,List.length_nil,Nat.zero_add]
  rw [hb1]
  generalize spP C now.ver f pre.length=st at *
  obtain ⟨n1,a1,b1⟩:=st
  obtain ⟨k,m⟩:=y
  have hl2:=low_pmanL m
  have hl3:=hab a1 b1
  unfold copX
  simp only [putps]
  simp only at hle ⊢
  have hdel:=hc_del 3004003 n1 a1 b1 (k:Int) hle
  refine wk ?_
  refine normP ?_
  refine PW.freezeP (id:=6000) (s:=5) (off:=0) (σ':=(((((bot.setb 3004003 [pint a1,pint b1]).setb 3004004 [.msl 3004003 0 n1 1]).put 1 (.ep [.ep (tW at_ now) 0] 0)).put 4 (.ptr 3004004 0)).setb 7000 (pmanL m)).put 6 (.ptr 7000 0)) rfl rfl (fun c hc=>by rw [List.mem_singleton] at hc;subst hc;exact .val _) (by exact sbr0) rfl ?_
  by_cases hver:m.ver=now.ver
  ·simp only [if_pos hver]
   have hl4:=hab (delN n1 a1 b1 (k:Int)).2.1 (delN n1 a1 b1 (k:Int)).2.2
   generalize delN n1 a1 b1 (k:Int)=st2 at *
   obtain ⟨n2,a2,b2⟩:=st2
   simp only at hdel hl4 ⊢
   refine wk ?_
   exact roundP trivial (by exact sb) (by exact lt0)
  ·simp only [if_neg hver]
   refine wk ?_
   exact roundP trivial (by exact sb) (by exact lt0)
 ·intro xs hxs _
  subst hxs
  rw [List.length_map,hst]
  have hl3:=hab a b
  refine ⟨(((bot.setb 4003 [pint a,pint b]).setb 4004 [.msl 4003 0 n 1]).put 1 (.ep [.ep (tW at_ now) 0] 0)).put 4 (.ptr 4004 0),by exact sbrF,?_,?_⟩
  ·have hkn:∀i,Kn ((((bot.setb 4003 [pint a,pint b]).setb 4004 [.msl 4003 0 n 1]).put 1 (.ep [.ep (tW at_ now) 0] 0)).put 4 (.ptr 4004 0)) i→i ∈ [4004,4003]:=by exact kn0
   intro i hi hk
   have h5:=hkn i hk
   simp [ResIds,dG,dMs] at hi h5
   omega
  refine wk ?_
  exact RetH.mk rfl (Weak.refl _) ⟨⟨_,rfl,WeakL.refl _⟩,⟨_,rfl,WeakL.refl _⟩,⟨_,rfl,WeakL.refl _⟩,trivial⟩ ⟨⟨rfl,rfl⟩,trivial⟩
theorem dG_stands (D:DM):∀x∈dG 1000001 1000002 1000003 D,∀c∈x.2,Stands c:=by
 intro x hx
 simp only [dG,List.mem_cons,List.not_mem_nil,or_false] at hx
 rcases hx with rfl|rfl
 ·intro c hc
  simp only [dB,List.mem_cons,List.not_mem_nil,or_false] at hc
  rcases hc with rfl|rfl|rfl|rfl|rfl
  ·exact .inl (.msl _ _ _ _)
  ·exact .inl (.mref _)
  ·exact .inl (.val _)
  ·exact .inl (.val _)
  ·exact .inl (.val _)
 ·intro c hc
  obtain ⟨d,-,hc⟩:=List.mem_flatMap.1 hc
  unfold dcellL at hc
  rcases List.mem_append.1 hc with hc|hc
  ·unfold secL at hc
   obtain ⟨x,-,rfl⟩:=List.mem_map.1 hc;exact .inl (.val _)
  ·simp only [List.mem_cons,List.not_mem_nil,or_false] at hc;subst hc;exact .inl (.val _)
theorem dM_stands {D:DM} (hop:D.op = []):∀x∈dMs 1000003 D,∀es clock,x.2 = .map es clock→∀e∈es,FlatV e.2.1∧Stands e.2.2:=by
 intro x hx es clock e
 simp only [dMs,List.mem_cons,List.not_mem_nil,or_false] at hx
 subst hx
 unfold dM at e
 rw [hop] at e
 simp only [List.map_nil,PMap.map.injEq] at e
 rw [←e.1]
 simp
theorem tc_spoiltB0 (D:DM) (at_:Nat) (now:PMan) (hop:D.op = []) (hv:now.ver=0):HCalls Tryz.prog 58 [.ptr 1000004 0] (tG 1000004 1000001 1000002 1000003 at_ now D) (dMs 1000003 D) .nilsl (tG 1000004 1000001 1000002 1000003 at_ now D) (dMs 1000003 D):=by
 have e:ResIds (dG 1000001 1000002 1000003 D) (dMs 1000003 D) = [1000001,1000002,1000003]:=rfl
 exact (tc_spoilt0 D at_ now hv).lend (id:=1000004) (cs:=tC 1000001 at_ now) (.cons (.ptr 0) .nil) (by rw [e];decide) (by rw [e];decide) (fun i hi=>hi) (tC_lowI (by rw [e];decide) at_ now) (tC_noown _ _ _) (.inl .nilsl) (dG_stands D) (dM_stands hop)
theorem tc_spoiltB (D:DM) (at_:Nat) (now:PMan) (h:D.cells.length≤1000000000) (hop:D.op = []) (ha:at_≤1000000000) (hv:0 < now.ver) (hv2:now.ver≤1000000000) (n:Nat) (a b:Int) (hst:spP (copiesM (readT D at_)) now.ver (firstI now.ver) (copiesM (readT D at_)).length=(n,a,b)) :
  HCalls Tryz.prog 58 [.ptr 1000004 0] (tG 1000004 1000001 1000002 1000003 at_ now D) (dMs 1000003 D) (.msl 4003 0 n 1) ((1000004,tC 1000001 at_ now) :: (4003,[pint a,pint b]) :: dG 1000001 1000002 1000003 D) (dMs 1000003 D):=by
 have e:ResIds (dG 1000001 1000002 1000003 D) (dMs 1000003 D) = [1000001,1000002,1000003]:=rfl
 have e2:ResIds ((4003,[pint a,pint b]) :: dG 1000001 1000002 1000003 D) (dMs 1000003 D) = [4003,1000001,1000002,1000003]:=rfl
 exact (tc_spoiltA D at_ now h hop ha hv hv2 _ rfl n a b hst).lend (id:=1000004) (cs:=tC 1000001 at_ now) (.cons (.ptr 0) .nil) (by rw [e];decide) (by rw [e2];decide) (fun i hi=>by rw [e] at hi;rw [e2];exact List.mem_cons_of_mem _ hi) (tC_lowI (by rw [e];decide) at_ now) (tC_noown _ _ _) (.inl (.msl _ _ _ _)) (fun x hx=>by
  rcases List.mem_cons.1 hx with rfl|hx
  ·intro c hc
   simp only [List.mem_cons,List.not_mem_nil,or_false] at hc
   rcases hc with rfl|rfl<;>exact .inl (.val _)
  ·exact dG_stands D x hx) (dM_stands hop)
set_option maxRecDepth 10000 in
set_option maxHeartbeats 1000000 in
theorem tc_Copies1 (D:DM) (at_:Nat) (now:PMan) (h:D.cells.length≤1000000000) (hop:D.op = []) (ha:at_≤1000000000) (hdead:D.dead=false) (hv:0 < now.ver) (hv2:now.ver≤1000000000) (n:Nat) (a b:Int) (hst:spP (copiesM (readT D at_)) now.ver (firstI now.ver) (copiesM (readT D at_)).length=(n,a,b)) :
  HCalls Tryz.prog 28 [.ptr 1000004 0] (tG 1000004 1000001 1000002 1000003 at_ now D) (dMs 1000003 D) (pint (2 - n)) (tG 1000004 1000001 1000002 1000003 at_ now D) (dMs 1000003 D):=by
 have hn2:n≤2:=by have:=spP_le (copiesM (readT D at_)) now.ver (firstI now.ver) (copiesM (readT D at_)).length;rw [hst] at this;exact this
 have hlr:Low (prefs now.refs):=(low_prefs _).2 trivial
 have hlt:Low (pints now.notes):=(low_pints _).2 trivial
 have c1:=dC_low D
 have c2:=dM_low D
 have hsp:=tc_spoiltB D at_ now h hop ha hv hv2 n a b hst
 have hdn:=dc_Down D 1000001 1000002 1000003 (by decide)
 rw [hdead] at hdn
 refine th_of_pw Tryz.func28 rfl rfl (by intro p hp;rcases List.mem_cons.1 hp with rfl|hp;exact .ptr _ _ (by simp);cases hp) (by simp [PV.ownB]) (Nat.le_of_ble_eq_true rfl) (.val _) ?_
 refine wk ?_
 exact RetH.mk rfl (Weak.refl _) ⟨⟨_,rfl,WeakL.refl _⟩,⟨_,rfl,WeakL.refl _⟩,⟨_,rfl,WeakL.refl _⟩,trivial⟩ ⟨⟨rfl,rfl⟩,trivial⟩
end
section
open Go.RowKit
variable {M:Nat} {P:Program} {σ:PS}
theorem PW.boxTake {c:Code} {Q:Exit→PS→Prop} {id:Nat} {bs cs r:List PV} (hb:σ.b id=some bs) (hc:bs=cs ++ r) (h:PW P M c Q (σ.setb id cs)):PW P M c Q σ:=by
 intro Φ0 W a w ⟨Φ,μ,ω,hg⟩
 exact h Φ0 W a w ⟨Φ,μ,ω,hg.boxTake hb hc⟩
end
section
open Go.RowKit
def DM.wrs (D:DM) (at_:Nat) (l:List Int) (m:PMan):DM:=l.foldl (fun D s=>D.wr at_ s.toNat m) D
theorem wrs_snoc (D:DM) (at_:Nat) (l:List Int) (s:Int) (m:PMan):D.wrs at_ (l ++ [s]) m=(D.wrs at_ l m).wr at_ s.toNat m:=by
 unfold DM.wrs;rw [List.foldl_append];rfl
set_option maxRecDepth 10000 in
theorem OkD.wrs {n:Nat} {at_:Nat} {m:PMan} (hn:at_+1024≤n) (hS:(slotM hfT m).length≤16384):∀(l:List Int) {k:Nat} {D:DM},OkD n k D→(∀s∈l,0≤s∧s≤3)→k+256 * l.length≤100000000→OkD n (k+256 * l.length) (D.wrs at_ l m)
 | [],k,D,h,_,_=>by simpa [DM.wrs] using h
 |s :: l,k,D,h,hl,hk=>by
  simp only [List.length_cons] at hk ⊢
  have h0:=hl s (List.mem_cons_self ..)
  have e1:s.toNat≤3:=by clear hS;omega
  have e2:k+256≤100000000:=by clear hS;omega
  have e3:k+256+256 * l.length≤100000000:=by clear hS;omega
  have h2:=h.wr (slot:=s.toNat) (m:=m) e1 hn hS e2
  have h1:=OkD.wrs hn hS l h2 (fun x hx=>hl x (List.mem_cons_of_mem _ hx)) e3
  rw [show k+256 * (l.length+1)=k+256+256 * l.length by clear hS h1 h2;omega]
  exact h1
def DM.mend (D:DM) (at_:Nat) (l:List Int) (m:PMan):DM:=if l = [] then D else ((D.clr at_ l).wrs at_ l m).sync.2
set_option maxRecDepth 10000 in
set_option maxHeartbeats 2000000 in
theorem tc_Mend1 {N k:Nat} {D:DM} (h:OkD N k D) (at_:Nat) (now:PMan) (hop:D.op = []) (hn:at_+1024≤N) (hn2:N≤1000000000) (hk:k+1000≤100000000) (hv:0 < now.ver) (hv2:now.ver≤1000000000) (hm:EncM now) (hml:(slotM hfT now).length≤16384) (n:Nat) (a b:Int) (hst:spP (copiesM (readT D at_)) now.ver (firstI now.ver) (copiesM (readT D at_)).length=(n,a,b)) (L:List Int) (hL:L = [a,b].take n) (hLs:∀s∈L,0≤s∧s≤3) :
  HCalls Tryz.prog 29 [.ptr 1000004 0] (tG 1000004 1000001 1000002 1000003 at_ now D) (dMs 1000003 D) (.tup [pint L.length,pint 0]) (tG 1000004 1000001 1000002 1000003 at_ now (D.mend at_ L now)) (dMs 1000003 (D.mend at_ L now)):=by
 have hn2' : n≤2:=by have:=spP_le (copiesM (readT D at_)) now.ver (firstI now.ver) (copiesM (readT D at_)).length;rw [hst] at this;exact this
 have hLn:L.length=n:=by rw [hL,List.length_take];simp;omega
 have hLt : [pint a,pint b]=L.map pint ++ ([a,b].drop n).map pint:=by rw [hL,←List.map_append,List.take_append_drop];rfl
 have hlr:Low (prefs now.refs):=(low_prefs _).2 trivial
 have hlt:Low (pints now.notes):=(low_pints _).2 trivial
 have hlm:=low_pmanL now
 have c1:=dC_low D
 have c2:=dM_low D
 have hsp:=tc_spoiltB D at_ now (by rw [h.len];exact hn2) hop (by omega) hv hv2 n a b hst
 have hdn:=dc_Down D 1000001 1000002 1000003 (by decide)
 rw [h.dead] at hdn
 refine th_of_pw Tryz.func29 rfl rfl (by intro p hp;rcases List.mem_cons.1 hp with rfl|hp;exact .ptr _ _ (by simp);cases hp) (by simp [PV.ownB]) (Nat.le_of_ble_eq_true rfl) (low_tup.2 (by simp [low_pint])).lowI ?_
 clear hst
 refine wg ?_
 refine PW.region typeTab_ok (by kernel_rfl) ?_
 refine wg ?_
 refine PW.region typeTab_ok (by kernel_rfl) ?_
 refine wg ?_
 refine PW.region typeTab_ok (by kernel_rfl) ?_
 refine wg ?_
 refine PW.boxTake (id:=4003) rfl hLt ?_
 refine PW.freeze (id:=4003) (s:=4) (σ':=((((bot.setb 1000004 (tC 1000001 at_ now)).setb 1000001 (dB 1000002 1000003 D)).setb 1000002 (dC D)).setm 1000003 (dM D)).put 0 (.ptr 1000004 0)) rfl rfl (by rw [List.length_map,hLn,Nat.mul_one]) (low_map (fun _=>Low.val _) _) (by (repeat (first|exact SubR.bot|((with_reducible refine SubR.isp ?_);refine SubR.put ?_ (by (first|exact .inl (ren_tC rfl)|exact .inl (.ptr _ _ rfl)|exact .inl (.msl _ _ _ _ rfl)|exact .inl (.mref _ rfl)|exact .inl (.low _ (by (first|exact low_mapI|exact low_mapS|exact low_mapB|assumption|exact hlow _|exact hlow _ _|exact Low.agg _ (low_map (fun _=>Low.val _) _)|(simp [low_pu32,low_pu64,low_val,low_nilsl,low_sl,low_ep,low_agg,low_tup,low_fn,low_pint,low_pstr,low_pbool,low_pints,low_pstrs,low_pbyte,low_pbytes,hlow];done)|(simp [low_pu32,low_pu64,low_val,low_nilsl,low_sl,low_ep,low_agg,low_tup,low_fn,low_pint,low_pstr,low_pbool,low_pints,low_pstrs,low_pbyte,low_pbytes];done)|simp [low_pu32,low_pu64,low_val,low_nilsl,low_sl,low_ep,low_agg,low_tup,low_fn,low_pint,low_pstr,low_pbool,low_pints,low_pstrs,low_pbyte,low_pbytes,low_pattrs,low_pdefs,low_pschema,low_pentry])))|exact .inr (.inl (.low _ (by (first|exact low_mapI|exact low_mapS|exact low_mapB|assumption|exact hlow _|exact hlow _ _|exact Low.agg _ (low_map (fun _=>Low.val _) _)|(simp [low_pu32,low_pu64,low_val,low_nilsl,low_sl,low_ep,low_agg,low_tup,low_fn,low_pint,low_pstr,low_pbool,low_pints,low_pstrs,low_pbyte,low_pbytes,hlow];done)|(simp [low_pu32,low_pu64,low_val,low_nilsl,low_sl,low_ep,low_agg,low_tup,low_fn,low_pint,low_pstr,low_pbool,low_pints,low_pstrs,low_pbyte,low_pbytes];done)|simp [low_pu32,low_pu64,low_val,low_nilsl,low_sl,low_ep,low_agg,low_tup,low_fn,low_pint,low_pstr,low_pbool,low_pints,low_pstrs,low_pbyte,low_pbytes,low_pattrs,low_pdefs,low_pschema,low_pentry]))))|exact .inr (.inr ⟨_,_,rfl,rfl⟩))))|((with_reducible refine SubR.isb ?_);refine SubR.setb ?_ rfl rfl (by (first|exact RenQL.low (by first|assumption|exact hlow _|exact hlow _ _|exact low_map (fun _=>Low.val _) _)|exact RenQL.lowE (by assumption) (low_map (fun _=>Low.val _) _)|((repeat (refine RenQL.cons (by (first|exact .inl (ren_tC rfl)|exact .inl (.ptr _ _ rfl)|exact .inl (.msl _ _ _ _ rfl)|exact .inl (.mref _ rfl)|exact .inl (.low _ (by (first|exact low_mapI|exact low_mapS|exact low_mapB|assumption|exact hlow _|exact hlow _ _|exact Low.agg _ (low_map (fun _=>Low.val _) _)|(simp [low_pu32,low_pu64,low_val,low_nilsl,low_sl,low_ep,low_agg,low_tup,low_fn,low_pint,low_pstr,low_pbool,low_pints,low_pstrs,low_pbyte,low_pbytes,hlow];done)|(simp [low_pu32,low_pu64,low_val,low_nilsl,low_sl,low_ep,low_agg,low_tup,low_fn,low_pint,low_pstr,low_pbool,low_pints,low_pstrs,low_pbyte,low_pbytes];done)|simp [low_pu32,low_pu64,low_val,low_nilsl,low_sl,low_ep,low_agg,low_tup,low_fn,low_pint,low_pstr,low_pbool,low_pints,low_pstrs,low_pbyte,low_pbytes,low_pattrs,low_pdefs,low_pschema,low_pentry])))|exact .inr (.inl (.low _ (by (first|exact low_mapI|exact low_mapS|exact low_mapB|assumption|exact hlow _|exact hlow _ _|exact Low.agg _ (low_map (fun _=>Low.val _) _)|(simp [low_pu32,low_pu64,low_val,low_nilsl,low_sl,low_ep,low_agg,low_tup,low_fn,low_pint,low_pstr,low_pbool,low_pints,low_pstrs,low_pbyte,low_pbytes,hlow];done)|(simp [low_pu32,low_pu64,low_val,low_nilsl,low_sl,low_ep,low_agg,low_tup,low_fn,low_pint,low_pstr,low_pbool,low_pints,low_pstrs,low_pbyte,low_pbytes];done)|simp [low_pu32,low_pu64,low_val,low_nilsl,low_sl,low_ep,low_agg,low_tup,low_fn,low_pint,low_pstr,low_pbool,low_pints,low_pstrs,low_pbyte,low_pbytes,low_pattrs,low_pdefs,low_pschema,low_pentry]))))|exact .inr (.inr ⟨_,_,rfl,rfl⟩))) ?_));exact RenQL.nil))))|((with_reducible refine SubR.ism ?_);refine SubR.setm ?_ rfl rfl (by (first|exact ⟨rfl,rfl,rfl,rfl,rfl⟩|exact RenM.low (by first|assumption|exact hlowm _|exact hlowm _ _))))))) rfl ?_
 rw [←hLn]
 have hL2:L.length≤2:=by omega
 clear hL hLt hLn hn2' hsp
 by_cases h0:L = []
 ·subst h0
  rw [show D.mend at_ [] now=D from if_pos rfl]
  refine wk ?_
  exact RetH.mk rfl (Weak.refl _) ⟨⟨_,rfl,WeakL.refl _⟩,⟨_,rfl,WeakL.refl _⟩,⟨_,rfl,WeakL.refl _⟩,trivial⟩ ⟨⟨rfl,rfl⟩,trivial⟩
 ·have hpos:0 < L.length:=List.length_pos_iff.2 h0
  rw [show D.mend at_ L now=((D.clr at_ L).wrs at_ L now).sync.2 from if_neg h0]
  clear h0
  have q1:=tc_clear1 h at_ now L hLs hn hn2 (by omega)
  obtain ⟨o1,p1⟩:=h.clr hLs hn (by omega)
  generalize D.clr at_ L=D1 at *
  have hlow1:∀i,∀c∈dC (D1.wrs at_ (L.take i) now),Low c:=fun i=>dC_low _
  have hlowm:∀i,∀e∈(D1.wrs at_ (L.take i) now).op.map dE,Low e.2.1∧Low e.2.2:=fun i=>dM_low _
  have hlL:Low (pints L):=(low_pints _).2 trivial
  have hD0:D1=D1.wrs at_ (L.take 0) now:=rfl
  refine wk ?_
  refine PW.loop (fun i:Nat=>(((((((((bot.setb 1000004 (tC 1000001 at_ now)).setb 1000001 (dB 1000002 1000003 (D1.wrs at_ (L.take i) now))).setb 1000002 (dC (D1.wrs at_ (L.take i) now))).setm 1000003 (dM (D1.wrs at_ (L.take i) now))).put 0 (.ptr 1000004 0)).put 4 (pints L)).put 26 (pints L)).put 27 (pint L.length)).put 28 (pint i))) (fun i=>i≤L.length) (fun i=>L.length - i) 0 (by omega) ?_ ?_
  ·have h1:=hlow1 0
   have h2:=hlowm 0
   exact sb
  ·intro i hil
   have hti:(L.take i).length=i:=by rw [List.length_take];omega
   have o2:=OkD.wrs hn hml (L.take i) o1 (fun s hs=>hLs s (List.mem_of_mem_take hs)) (by omega)
   rw [hti] at o2
   by_cases hlt:i < L.length
   ·have hnx:L.take (i+1)=L.take i ++ [L.getD i default]:=take_getD default (by omega)
    have hz:=hLs (L.getD i default) (by rw [List.getD_eq_getElem?_getD,List.getElem?_eq_getElem hlt];exact List.getElem_mem hlt)
    have hzz:((L.getD i default).toNat:Int)=L.getD i default:=by omega
    have hw:=tc_write1 o2 at_ (L.getD i default).toNat now now (by omega) hn hn2 (by omega) hm hml
    rw [hzz] at hw
    have hD2:D1.wrs at_ (L.take (i+1)) now=(D1.wrs at_ (L.take i) now).wr at_ (L.getD i default).toNat now:=by rw [hnx,wrs_snoc]
    rw [←hD2] at hw
    have h1:=hlow1 (i+1)
    have h2:=hlowm (i+1)
    clear hlow1 hlowm hD2 o2 hnx hzz hD0 q1 o1 p1 h
    generalize hE2:D1.wrs at_ (L.take (i+1)) now=D2 at *
    generalize D1.wrs at_ (L.take i) now=D3 at *
    refine wk ?_
    refine loopP (i+1) (by show i+1≤L.length;omega) (by show L.length - (i+1) < L.length - i;omega) ?_
    try dsimp only
    rw [hE2]
    exact sb
   ·have e:i=L.length:=by omega
    subst e
    rw [List.take_length] at *
    obtain ⟨s1,s2,s3,s4⟩:=o2.sync_ok (by omega)
    have hs:=o2.steps
    have hsy:=dc_Sync (D1.wrs at_ L now) ⟨by omega,by omega,by rw [o2.after];omega⟩ (by rw [o2.after];omega) (by rw [o2.len];omega) (by rw [o2.len];exact o2.op) 1000001 1000002 1000003 (by decide)
    rw [s1] at hsy
    have h1:=dC_low (D1.wrs at_ L now).sync.2
    have h2:=dM_low (D1.wrs at_ L now).sync.2
    have h3:=dC_low (D1.wrs at_ L now)
    have h4:=dM_low (D1.wrs at_ L now)
    clear s1 s2 s3 s4 o1 o2 hlow1 hlowm hs q1 h
    generalize (D1.wrs at_ L now).sync.2=D2 at *
    generalize D1.wrs at_ L now=D3 at *
    refine wk ?_
    exact RetH.mk rfl (Weak.refl _) ⟨⟨_,rfl,WeakL.refl _⟩,⟨_,rfl,WeakL.refl _⟩,⟨_,rfl,WeakL.refl _⟩,trivial⟩ ⟨⟨rfl,rfl⟩,trivial⟩
theorem str_at {s:ByteArray} {y:Nat} (h:y < s.size):∃b:UInt8,s[y]? = some b∧((bytesL s).getD y 0)=(b.toNat:Int):=by
 refine ⟨s[y],getElem?_pos s y h,?_⟩
 have h' : y < s.data.toList.length:=h
 simp only [bytesL,List.getD_eq_getElem?_getD,List.getElem?_map,List.getElem?_eq_getElem h',Option.map_some,Option.getD_some]
 rfl
end
section
open Go.RowKit
variable {P:Program} {T:Tab} {σ:PS} {o:Oper} {i base:Nat} {ops:Array Oper} {ok:Nat→Nat→Bool} {rest:List (Nat×Oper)} {K:PS→Prop}
theorem PWops.idxSt {d y:Nat} {z c:Int} {s:ByteArray} {kk:IntKind} {x ix:Operand} {t:TypeId} {ti:TyI} (hg:pguard ops σ o=some true) (hd:o.dst=some d) (hop:o.op = .index t x ix) (hx:pev σ x = .val (.string s)) (hi:pev σ ix = .val (.int kk z)) (ht:T.at t=some ti) (hk:ti.kind = .str) (hb:σ.freeB (base+i)=true) (hz:z=y) (hy:y < s.size) (hc:(bytesL s).getD y 0=c)
  (kn:PWops P T ops base ok rest K (σ.put d (.val (.int .u8 c)))):PWops P T ops base ok ((i,o) :: rest) K σ:=by
 subst hz
 obtain ⟨b,h1,h2⟩:=str_at hy
 rw [←hc,h2] at kn
 refine pres_pval hg hd ?_ hb kn
 simp [hop,presE,pvalA,pval,pev_only,hx,hi,ht,hk,pindexV,h1]
end
end Go.Proofs.YtmeekbjhpidcgaaGreatDoor
