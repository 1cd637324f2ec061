/- Out of: Td, Row32, Ja, Jb. -/
import Derived.Test.YtmeekbjhpidcgaaDoorG23
import Derived.Test.YtmeekbjhpidcgaaDoorG24
import Derived.Test.YtmeekbjhpidcgaaDoorG25
import Derived.Test.YtmeekbjhpidcgaaDoorG26
namespace Go.Proofs.YtmeekbjhpidcgaaDoor
set_option linter.unusedSimpArgs false
set_option linter.unusedVariables false
set_option linter.unnecessarySimpa false
section
open Go.RowKit
theorem pc_concatB3 (a b c:List Int) (h:a.length+b.length+c.length≤1000000000):PCalls Tryd.prog 59 [.sl 3 1 [pbytes a,pbytes b,pbytes c] none] (· = pbytesO (a ++ (b ++ c))):=
 pcalls1 (by kernel_rfl) fun Φ μ w v himm hr=>by
  obtain ⟨a1,g,off,cap,us,rfl,h1,h2,h3,h4,h5,h6⟩:=hr.sl_inv
  have r0:=bytes_of_rep himm (h6 0 (pbytes a) rfl)
  have r1:=bytes_of_rep himm (h6 1 (pbytes b) rfl)
  have r2:=bytes_of_rep himm (h6 2 (pbytes c) rfl)
  have k0:=himm _ _ _ (h5 0 (by simp))
  have k1:=himm _ _ _ (h5 1 (by simp))
  have k2:=himm _ _ _ (h5 2 (by simp))
  have hrd:Rd w (.slice a1 3 cap) [us 0,us 1,us 2]:=⟨a1,cap,g,off,rfl,h1,h2,fun _=>h4 (by omega),fun j u hu=>by
   match j,hu with
   |0,hu=>cases hu;exact k0
   |1,hu=>cases hu;exact k1
   |2,hu=>cases hu;exact k2⟩
  refine (slicesConcatB _ [us 0,us 1,us 2] [a,b,c] w hrd rfl (by simp) (Hid.mk fun i u l hu hl=>?_) (by simp;omega)).mono ?_
  ·match i,hu,hl with
   |0,hu,hl=>cases hu;cases hl;exact r0
   |1,hu,hl=>cases hu;cases hl;exact r1
   |2,hu,hl=>cases hu;cases hl;exact r2
  ·rintro e w' ⟨u,rfl,ho,hb⟩
   have e:([a,b,c]:List (List Int)).flatten=a ++ (b ++ c):=by simp
   rw [e] at ho
   exact post_own himm (plain_int _) ho hb
theorem toList_eq (a b:ByteArray):(a.toList == b.toList)=decide (a=b):=by
 by_cases h:a=b
 ·subst h;simp
 ·rw [decide_eq_false h]
  cases e:(a.toList == b.toList) with
  |false=>rfl
  |true=>
   have h1:=eq_of_beq e
   rw [ByteArray.toList_eq,ByteArray.toList_eq] at h1
   exact absurd (ba_ext h1) h
set_option maxRecDepth 10000 in
theorem pw_bytesEqual (a b:List Int) (h1:Byte a) (h2:Byte b):PCalls Tryd.prog 54 [pbytes a,pbytes b] (· = pbool (decide (a=b))):=by
 refine pcalls_of_pw typeTab_ok Tryd.func54 rfl (by kernel_rfl) (by simp [low_pint,low_pints,low_pstr,low_pbool,low_pbytes,low_pstrs]) (by simp [pint,pints,pstr,pbool,pstrs,pbytes,PV.ownB]) (by rw [Tryd.ntmps54];simp) ?_
 rw [Tryd.ntmps54,Tryd.results54]
 refine wk ?_
 refine PWops.val rfl rfl rfl rfl ?_
 refine wk ?_
 refine retP rfl (by exact lw) ?_
 rw [toList_eq]
 by_cases h:a=b
 ·subst h;simp [pbool]
 ·have hs:¬strI a=strI b:=fun e=>h (strOf_inj h1.all h2.all e)
  rw [decide_eq_false h,decide_eq_false hs];rfl
theorem nosM_take {l:List PRef} {k:Nat} {r:PRef} (h:l[k]? = some r):nosM (l.take (k+1))=nosM (l.take k) ++ [r.kind,r.id]:=by
 rw [List.take_add_one,h];simp [nosM]
theorem digsM_take {l:List PRef} {k:Nat} {r:PRef} (h:l[k]? = some r):digsM (l.take (k+1))=digsM (l.take k) ++ [strOf r.dig]:=by
 rw [List.take_add_one,h];simp [digsM]
theorem dig16 {d:List Int} (h:d.length=16) : [d.getD 0 0,d.getD 1 0,d.getD 2 0,d.getD 3 0,d.getD 4 0,d.getD 5 0,d.getD 6 0,d.getD 7 0,d.getD 8 0,d.getD 9 0,d.getD 10 0,d.getD 11 0,d.getD 12 0,d.getD 13 0,d.getD 14 0,d.getD 15 0]=d:=by
 match d,h with
 | [_,_,_,_,_,_,_,_,_,_,_,_,_,_,_,_],_=>rfl
structure EncM (m:PMan):Prop where
 f1:Fit (m.ver :: m.notes)
 f2:Fit (nosM m.refs)
 d:DigsOK m
 l1:m.notes.length≤100000
 l2:m.refs.length≤100000
set_option maxRecDepth 10000 in
set_option maxHeartbeats 4000000 in
theorem pw_mEncode (m:PMan) (h:EncM m):PCalls Tryd.prog 46 [pman m] (· = pbytesO (encM m)):=by
 obtain ⟨f1,f2,hd,l1,l2⟩:=h
 have hlm:=low_pmanL m
 have hln:Low (pints m.notes):=(low_pints _).2 trivial
 have hlr:Low (prefs m.refs):=(low_prefs _).2 trivial
 refine pcalls_of_pw typeTab_ok Tryd.func46 rfl (by kernel_rfl) (by simp [low_pint,low_pints,low_pstr,low_pbool,low_pbytes,low_pstrs,low_pman]) (by simp [pint,pints,pstr,pbool,pstrs,pbytes,PV.ownB,pman]) (by rw [Tryd.ntmps46];simp) ?_
 rw [Tryd.ntmps46,Tryd.results46]
 have fl:=rows_len m.refs
 refine wk ?_
 refine PW.loop (fun k:Nat=>((((((bot.setb 0 (pmanL m)).put 1 (.ptr 0 0)).put 3 (.sl (2 * k) 1 ((nosM (m.refs.take k)).map pint) (some 3))).put 4 (.sl k 1 ((digsM (m.refs.take k)).map pstr) (some 9))).put 8 (prefs m.refs)).put 9 (pint m.refs.length)).put 10 (pint k)) (fun k=>k≤m.refs.length) (fun k=>m.refs.length - k) 0 (by omega) ?_ ?_
 ·(refine Sub.same ?_;(repeat (first|exact SubR.bot|((with_reducible refine SubR.isp ?_);refine SubR.put ?_ (by exact rq0))|((with_reducible refine SubR.isb ?_);refine SubR.setb ?_ rfl rfl (by exact rl0))|((with_reducible refine SubR.ism ?_);refine SubR.setm ?_ rfl rfl (by (first|exact ⟨rfl,rfl,rfl,rfl,rfl⟩|exact RenM.low (by first|assumption|exact hlowm _|exact hlowm _ _))))|refine SubR.put ?_ (.inl (ren_eqlow (sl_eq ?_ ?_) (by exact lw))))))
 ·intro k hk
  by_cases hlt:k < m.refs.length
  ·have hr:=getD_row hlt
   have hr':=ref_cell hr
   obtain ⟨r,hrr⟩:∃r,r=m.refs.getD k default:=⟨_,rfl⟩
   rw [←hrr] at hr hr'
   have hdr:=hd r (List.mem_of_getElem? hr)
   clear hd
   refine wk ?_
   refine PWops.strM (l := [r.dig.getD 0 0,r.dig.getD 1 0,r.dig.getD 2 0,r.dig.getD 3 0,r.dig.getD 4 0,r.dig.getD 5 0,r.dig.getD 6 0,r.dig.getD 7 0,r.dig.getD 8 0,r.dig.getD 9 0,r.dig.getD 10 0,r.dig.getD 11 0,r.dig.getD 12 0,r.dig.getD 13 0,r.dig.getD 14 0,r.dig.getD 15 0]) (s:=strOf r.dig) rfl rfl rfl rfl rfl rfl rfl rfl rfl rfl rfl rfl rfl (Nat.le_of_ble_eq_true rfl) rfl (congrArg strOf (dig16 hdr.1)) ?_
   refine wk ?_
   refine loopP (k+1) (by omega) (by omega) ?_
   (refine Sub.same ?_;(repeat (first|exact SubR.bot|((with_reducible refine SubR.isp ?_);refine SubR.put ?_ (by exact rq0))|((with_reducible refine SubR.isb ?_);refine SubR.setb ?_ rfl rfl (by exact rl0))|((with_reducible refine SubR.ism ?_);refine SubR.setm ?_ rfl rfl (by (first|exact ⟨rfl,rfl,rfl,rfl,rfl⟩|exact RenM.low (by first|assumption|exact hlowm _|exact hlowm _ _))))|refine SubR.put ?_ (.inl (ren_eqlow (sl_eq ?_ ?_) (by exact lw))))))
   ·omega
   ·rw [nosM_take hr,List.map_append];rfl
   ·omega
   ·rw [digsM_take hr,List.map_append];rfl
  ·obtain rfl:k=m.refs.length:=by omega
   have e0:m.refs.take m.refs.length=m.refs:=List.take_length
   rw [e0]
   have hc1:=pcInts (m.ver :: m.notes) f1 (by simp only [List.length_cons];omega)
   have hc2:=pcInts (nosM m.refs) f2 (by rw [nosM_len];omega)
   have hc3:=pcStrings (digsM m.refs) (digs_small hd) (by rw [digsM_len];omega)
   have e1:PV.sl (1+m.notes.length) 1 ([pint m.ver] ++ m.notes.map pint) none=pints (m.ver :: m.notes):=sl_eq (by simp only [List.length_cons];omega) rfl
   have e2:PV.sl (2 * m.refs.length) 1 ((nosM m.refs).map pint) none=pints (nosM m.refs):=sl_eq (by rw [nosM_len]) rfl
   have e3:PV.sl m.refs.length 1 ((digsM m.refs).map pstr) none=pstrs (digsM m.refs):=sl_eq (by rw [digsM_len]) rfl
   have b1:=flat_len (m.ver :: m.notes) f1
   have b2:=flat_len (nosM m.refs) f2
   have b3:=digs_len m.refs (fun r hr=>(hd r hr).1)
   have b4:=intB_len ((m.ver :: m.notes).length:Nat) (by omega) (by simp only [List.length_cons];omega)
   have b5:=intB_len ((nosM m.refs).length:Nat) (by omega) (by rw [nosM_len];omega)
   have b6:=intB_len ((digsM m.refs).length:Nat) (by omega) (by rw [digsM_len];omega)
   have hb:(intsB (m.ver :: m.notes)).length+(intsB (nosM m.refs)).length+(strsB (digsM m.refs)).length≤1000000000:=by
    unfold intsB strsB
    simp only [List.length_append]
    rw [nosM_len] at b2
    simp only [List.length_cons] at b1
    omega
   have hc4:=pc_concatB3 (intsB (m.ver :: m.notes)) (intsB (nosM m.refs)) (strsB (digsM m.refs)) hb
   clear hd f1 f2 b1 b2 b3 b4 b5 b6 hb
   rw [←e1] at hc1
   rw [←e2] at hc2
   rw [←e3] at hc3
   clear e1 e2 e3
   refine wk ?_
   exact retP rfl (by exact lw) rfl
end
section
open Go.ChangeShapes Go.WideShapes Go.ChangeAt Go.RowKit
theorem wfI {z:Int} (h:(Lit.int .i64 z).wf=true):Fit64 z:=by
 simp [Lit.wf,IntKind.min,IntKind.max,IntKind.signed,IntKind.bits] at h
 exact ⟨by omega,by omega⟩
theorem wfB {z:Int} (h:(Lit.int .u8 z).wf=true):0≤z∧z < 256:=by
 simp [Lit.wf,IntKind.min,IntKind.max,IntKind.signed,IntKind.bits] at h
 exact ⟨by omega,by omega⟩
theorem flatMap_1 {α:Type} (f:α→PV) (l:List α):l.flatMap (fun x => [f x])=l.map f:=by
 induction l with
 |nil=>rfl
 |cons x l ih=>simp [ih]
theorem opensI:Opens Tryd.prog 3 (fun z => [pint z]) Fit64:=(opens_int Tryd.underlying3).map id (fun _ _=>rfl) (fun _ h=>wfI h)
theorem opensB:Opens Tryd.prog 5 (fun z => [pbyte z]) (fun z=>0≤z∧z < 256):=(opens_int Tryd.underlying5).map id (fun _ _=>rfl) (fun _ h=>wfB h)
theorem opensIs:Opens Tryd.prog 22 (fun l => [pints l]) (fun l=>(∀z∈l,Fit64 z)∧l.length * 8≤reachBytes):=
 (opens_slice Tryd.underlying22 (by kernel_rfl) (by decide) (by kernel_rfl) opensI (fun _ _=>rfl)).map id (fun a _=>by show [pints a]=_;rw [flatMap_1];rfl) (fun _ h=>h)
theorem prefL_dig {r:PRef} (h:r.dig.length=16):prefL r=pint r.kind :: pint r.id :: r.dig.map pbyte:=by
 have:=dig16 h
 unfold prefL dg
 rw [←this]
 rfl
def RefOKA (r:PRef):Prop:=Fit64 r.kind∧Fit64 r.id∧r.dig.length=16∧∀c∈r.dig,0≤c∧c < 256
theorem opensRef:Opens Tryd.prog 44 prefL RefOKA:=
 (opens_struct Tryd.underlying44 (opensFs_1 rfl opensI (by kernel_rfl) (opensFs_1 rfl opensI (by kernel_rfl) (opensFs_cons (k:=16) rfl (by kernel_rfl) (opens_array (n:=16) (k:=1) Tryd.underlying42 (by kernel_rfl) (by kernel_rfl) opensB) opensFs_nil))) (by kernel_rfl)).map
  (fun p=>(⟨p.1,p.2.1,p.2.2.1⟩:PRef)) (fun p h=>by
   rw [prefL_dig h.2.2.1.2]
   show _=pint p.1 :: pint p.2.1 :: (p.2.2.1.flatMap (fun z => [pbyte z]) ++ [])
   rw [List.append_nil,flatMap_1]) (fun _ h=>⟨h.1,h.2.1,h.2.2.1.2,h.2.2.1.1⟩)
theorem opensRefs:Opens Tryd.prog 23 (fun l => [prefs l]) (fun l=>(∀r∈l,RefOKA r)∧l.length * 32≤reachBytes):=
 (opens_slice Tryd.underlying23 (by kernel_rfl) (by decide) (by kernel_rfl) opensRef (fun _ _=>rfl)).map id (fun a _=>rfl) (fun _ h=>h)
structure GoodM (m:PMan):Prop where
 ver:Fit64 m.ver
 notes:∀z∈m.notes,Fit64 z
 refs:∀r∈m.refs,RefOKA r
 len1:m.notes.length * 8≤reachBytes
 len2:m.refs.length * 32≤reachBytes
theorem argMan:ArgOpens Tryd.prog 25 pman GoodM:=
 (arg_struct Tryd.underlying25 (opens_struct Tryd.underlying25 (opensFs_1 rfl opensI (by kernel_rfl) (opensFs_1 rfl opensIs (by kernel_rfl) (opensFs_1 rfl opensRefs (by kernel_rfl) opensFs_nil))) (by kernel_rfl))).map
  (fun p=>(⟨p.1,p.2.1,p.2.2.1⟩:PMan)) (fun _ _=>rfl) (fun _ h=>⟨h.1,h.2.1.1,h.2.2.1.1,h.2.1.2,h.2.2.1.2⟩)
theorem argI:ArgOpens Tryd.prog 3 pint Fit64:=(arg_int Tryd.underlying3).map id (fun _ _=>rfl) (fun _ h=>wfI h)
theorem argB8:ArgOpens Tryd.prog 5 pbyte (fun z=>0≤z∧z < 256):=(arg_int Tryd.underlying5).map id (fun _ _=>rfl) (fun _ h=>wfB h)
theorem reachE:reachBytes=140737488351232:=rfl
theorem GoodM.digs {m:PMan} (h:GoodM m):DigsOK m:=fun r hr=>⟨(h.refs r hr).2.2.1,(h.refs r hr).2.2.2⟩
theorem GoodM.len {m:PMan} (h:GoodM m):m.notes.length≤1000000000000000∧m.refs.length≤1000000000000000:=by
 have e:=reachE
 have h1:=h.len1
 have h2:=h.len2
 exact ⟨by omega,by omega⟩
end
section
open Go.RowKit
structure OkD (n:Nat) (k:Nat) (D:DM):Prop where
 dead:D.dead=false
 after:D.after = -1
 len:D.cells.length=n
 steps:0≤D.steps∧D.steps≤k
 op:opOK n D.op
 room:∀e∈D.op,e.2.2.length≤k
theorem OkD.mono {n k k' : Nat} {D:DM} (h:OkD n k D) (hk:k≤k'):OkD n k' D:=⟨h.dead,h.after,h.len,by have:=h.steps;omega,h.op,fun e he=>by have:=h.room e he;omega⟩
theorem OkD.check {n k:Nat} {D:DM} (h:OkD n k D) (i:Int):D.check i=if i < 0∨(n:Int)≤i then 1 else 0:=by
 unfold DM.check
 rw [h.dead,h.len];rfl
theorem OkD.check0 {n k:Nat} {D:DM} (h:OkD n k D) {i:Int} (h0:0≤i) (h1:i < n):D.check i=0:=by rw [h.check,if_neg (by omega)]
theorem OkD.step {n k:Nat} {D:DM} (h:OkD n k D):D.step=(0,{ D with steps:=D.steps+1 }):=by
 unfold DM.step
 rw [h.after]
 simp
theorem opIdx_none {i:Int} : ∀{op:List (Nat×Int×List Sec)} {n:Nat},opIdx i op n=none→i∉op.map (·.2.1)
 | [],n,h=>by simp
 |(a,k,b) :: op,n,h=>by
  simp only [opIdx] at h
  split at h
  ·cases h
  ·rename_i hne
   simp only [List.map_cons,List.mem_cons,not_or]
   exact ⟨hne,opIdx_none h⟩
theorem opFind_idx {i:Int} : ∀(op:List (Nat×Int×List Sec)) (n:Nat),opFind i op=match opIdx i op n with
  |some j=>some (op.getD (j - n) default).2.2
  |none=>none
 | [],n=>rfl
 |(a,k,b) :: op,n=>by
  simp only [opFind,opIdx]
  by_cases h:i=k
  ·simp [h]
  ·rw [if_neg h,if_neg h,opFind_idx op (n+1)]
   cases hj:opIdx i op (n+1) with
   |none=>rfl
   |some j=>
    have:=(opIdx_lt hj).1
    simp only
    rw [show j - n=(j - (n+1))+1 by omega];rfl
theorem get_find (D:DM) (i:Int):D.get i=(opFind i D.op).getD []:=by
 rw [DM.get,opFind_idx D.op 0]
 cases opIdx i D.op 0<;>rfl
theorem opFind_append {i:Int} : ∀{op:List (Nat×Int×List Sec)} {e:Nat×Int×List Sec},opFind i (op ++ [e])=match opFind i op with
  |some l=>some l
  |none=>if i=e.2.1 then some e.2.2 else none
 | [],(a,k,b)=>rfl
 |(a,k,b) :: op,e=>by
  simp only [List.cons_append,opFind]
  split
  ·rfl
  ·exact opFind_append
theorem opFind_set {i c:Int} : ∀{op:List (Nat×Int×List Sec)} {j s:Nat} {l l' : List Sec},(op.map (·.2.1)).Nodup→op[j]? = some (s,c,l)→opFind i (op.set j (s,c,l'))=if i=c then some l' else opFind i op
 | [],j,s,l,l',hn,h=>by simp at h
 |(a,k,b) :: op,0,s,l,l',hn,h=>by
  simp at h
  obtain ⟨rfl,rfl,rfl⟩:=h
  simp only [List.set_cons_zero,opFind]
  split<;>rfl
 |(a,k,b) :: op,j+1,s,l,l',hn,h=>by
  simp only [List.map_cons,List.nodup_cons] at hn
  simp only [List.getElem?_cons_succ] at h
  have hne:c≠k:=by
   rintro rfl
   exact hn.1 (List.mem_map.2 ⟨_,List.mem_of_getElem? h,rfl⟩)
  simp only [List.set_cons_succ,opFind,opFind_set hn.2 h]
  by_cases e:i=k
  ·subst e;rw [if_pos rfl,if_neg (fun e=>hne e.symm),if_pos rfl]
  ·rw [if_neg e,if_neg e]
theorem get_addW {n k:Nat} {D:DM} (h:OkD n k D) (i:Int) (s:Sec) (q:Int):(addW D i s).get q=if q=i then D.get i ++ [s] else D.get q:=by
 rw [get_find,get_find,get_find]
 unfold addW
 cases hj:opIdx i D.op 0 with
 |none=>
  simp only
  rw [opFind_append,opFind_none (opIdx_none hj)]
  by_cases e:q=i
  ·subst e;rw [opFind_none (opIdx_none hj)];simp
  ·simp only [if_neg e]
   cases opFind q D.op<;>rfl
 |some j=>
  obtain ⟨-,h2,s',v,h3⟩:=opIdx_lt hj
  simp only [Nat.sub_zero] at h3
  simp only [List.getD_eq_getElem?_getD,h3,Option.getD_some]
  rw [opFind_set h.op.1 h3,opFind_at h.op.1 h3]
  by_cases e:q=i
  ·subst e;simp
  ·simp [e]
theorem addW_cells (D:DM) (i:Int) (s:Sec):(addW D i s).cells=D.cells∧(addW D i s).steps=D.steps∧(addW D i s).after=D.after∧(addW D i s).dead=D.dead:=by
 unfold addW;split<;>exact ⟨rfl,rfl,rfl,rfl⟩
theorem addW_op {n k:Nat} {D:DM} (h:OkD n k D) {i:Int} (h0:0≤i) (h1:i < n) (hk:k < 1000000000) (s:Sec):opOK n (addW D i s).op∧∀e∈(addW D i s).op,e.2.2.length≤k+1:=by
 unfold addW
 cases hj:opIdx i D.op 0 with
 |none=>
  refine ⟨⟨?_,?_⟩,?_⟩
  ·simp only [List.map_append,List.map_cons,List.map_nil,List.nodup_append,List.nodup_cons,List.not_mem_nil,not_false_eq_true,List.nodup_nil,and_true,List.mem_cons,or_false,true_and]
   refine ⟨h.op.1,fun a ha b hb=>?_⟩
   subst hb
   rintro rfl
   exact opIdx_none hj ha
  ·intro e he
   rcases List.mem_append.1 he with he|he
   ·exact h.op.2 e he
   ·simp at he;subst he;exact ⟨h0,h1,by simp,by simp⟩
  ·intro e he
   rcases List.mem_append.1 he with he|he
   ·have:=h.room e he;omega
   ·simp at he;subst he;simp
 |some j=>
  obtain ⟨-,h2,s',v,h3⟩:=opIdx_lt hj
  simp only [Nat.sub_zero] at h3
  have hm:=List.mem_of_getElem? h3
  have hb:=h.op.2 _ hm
  have hr:=h.room _ hm
  simp only at hb hr
  simp only [List.getD_eq_getElem?_getD,h3,Option.getD_some]
  refine ⟨⟨?_,?_⟩,?_⟩
  ·have:(D.op.set j (s',i,v ++ [s])).map (·.2.1)=D.op.map (·.2.1):=by
    rw [List.map_set]
    apply List.ext_getElem?
    intro q
    rw [List.getElem?_set]
    split
    ·rename_i e;subst e;rw [List.getElem?_map,h3];simp [(List.getElem?_eq_some_iff.1 h3).1]
    ·rfl
   rw [this];exact h.op.1
  ·intro e he
   rcases List.mem_or_eq_of_mem_set he with he|rfl
   ·exact h.op.2 e he
   ·exact ⟨h0,h1,by simp,by simp;omega⟩
  ·intro e he
   rcases List.mem_or_eq_of_mem_set he with he|rfl
   ·have:=h.room e he;omega
   ·simp;omega
theorem OkD.write {n k:Nat} {D:DM} (h:OkD n k D) {i:Int} (h0:0≤i) (h1:i < n) (hk:k < 1000000000) (s:Sec):(D.write i s).1=0∧OkD n (k+1) (D.write i s).2∧(D.write i s).2.steps=D.steps+1:=by
 have hs:OkD n k { D with steps:=D.steps }:=h
 have e:D.write i s=(0,addW { D with steps:=D.steps+1 } i s):=by
  rw [DM.write,if_pos (h.check0 h0 h1),h.step];rfl
 rw [e]
 have hg:∀t,addW { D with steps:=t } i s = { addW D i s with steps:=t }:=by
  intro t
  unfold addW
  simp only
  split<;>rfl
 rw [hg]
 obtain ⟨c1,c2,c3,c4⟩:=addW_cells D i s
 obtain ⟨o1,o2⟩:=addW_op h h0 h1 hk s
 have:=h.steps
 exact ⟨rfl,⟨c4.trans h.dead,c3.trans h.after,by rw [←h.len];exact congrArg List.length c1,by simp only;omega,o1,o2⟩,rfl⟩
theorem OkD.read {n k:Nat} {D:DM} (h:OkD n k D) {q:Int} (h0:0≤q) (h1:q < n):D.read q=if 0 < (D.get q).length then (lastS (D.get q),0) else if (D.cell q).bad then (zeroSec,221) else ((D.cell q).s,0):=by
 rw [DM.read,if_pos (h.check0 h0 h1)]
theorem lastS_snoc (l:List Sec) (s:Sec):lastS (l ++ [s])=s:=by
 unfold lastS
 rw [show ((((l ++ [s]).length:Nat):Int) - 1).toNat=l.length by simp]
 simp [List.getD_eq_getElem?_getD]
theorem OkD.read_write {n k:Nat} {D:DM} (h:OkD n k D) {i:Int} (h0:0≤i) (h1:i < n) (hk:k < 1000000000) (s:Sec) {q:Int} (q0:0≤q) (q1:q < n):(D.write i s).2.read q=if q=i then (s,0) else D.read q:=by
 have hw:=h.write h0 h1 hk s
 rw [hw.2.1.read q0 q1,h.read q0 q1]
 have e:D.write i s=(0,addW { D with steps:=D.steps+1 } i s):=by
  rw [DM.write,if_pos (h.check0 h0 h1),h.step];rfl
 have hg:∀t,addW { D with steps:=t } i s = { addW D i s with steps:=t }:=by
  intro t
  unfold addW
  simp only
  split<;>rfl
 have g1:(D.write i s).2.get q=if q=i then D.get i ++ [s] else D.get q:=by
  rw [e];simp only;rw [hg];exact get_addW h i s q
 have g2:(D.write i s).2.cell q=D.cell q:=by
  rw [e];simp only;rw [hg];unfold DM.cell;rw [←(addW_cells D i s).1]
 rw [g1,g2]
 by_cases hq:q=i
 ·rw [if_pos hq,if_pos hq,if_pos (by simp),lastS_snoc]
 ·rw [if_neg hq,if_neg hq]
theorem OkD.sync {n k:Nat} {D:DM} (h:OkD n k D) (hn:0 < n):D.sync=(0,{ D with steps:=D.steps+1,cells:=synced D.cells D.op,op := [] }):=by
 rw [DM.sync,if_pos (h.check0 (by omega) (by omega)),h.step];rfl
theorem synced_len (cells:List DCell) (op:List (Nat×Int×List Sec)):(synced cells op).length=cells.length:=by simp [synced]
theorem OkD.sync_ok {n k:Nat} {D:DM} (h:OkD n k D) (hn:0 < n):D.sync.1=0∧OkD n (k+1) D.sync.2∧D.sync.2.steps=D.steps+1∧D.sync.2.op = []:=by
 rw [h.sync hn]
 have:=h.steps
 exact ⟨rfl,⟨h.dead,h.after,by simp only [synced_len];exact h.len,by simp only;omega,⟨by simp,by simp⟩,by simp⟩,rfl,rfl⟩
theorem OkD.read_sync {n k:Nat} {D:DM} (h:OkD n k D) (hn:0 < n) {q:Int} (q0:0≤q) (q1:q < n):D.sync.2.read q=D.read q:=by
 rw [(h.sync_ok hn).2.1.read q0 q1,h.read q0 q1,h.sync hn]
 have g1:({ D with steps:=D.steps+1,cells:=synced D.cells D.op,op := [] } : DM).get q = []:=by rw [get_find];rfl
 rw [g1,if_neg (by simp),get_find]
 have hc:({ D with steps:=D.steps+1,cells:=synced D.cells D.op,op := [] } : DM).cell q=match opFind q D.op with
   |some l=>⟨lastS l,false⟩
   |none=>D.cell q:=by
  unfold DM.cell synced
  have hl:q.toNat < D.cells.length:=by rw [h.len];omega
  simp only [List.getD_eq_getElem?_getD,List.getElem?_map,List.getElem?_range hl,Option.map_some,Option.getD_some]
  rw [Int.toNat_of_nonneg q0]
  all_goals (cases opFind q D.op<;>rfl)
 rw [hc]
 cases hf:opFind q D.op with
 |none=>rfl
 |some l=>
  have hl:0 < l.length:=by
   rw [opFind_idx D.op 0] at hf
   cases hj:opIdx q D.op 0 with
   |none=>rw [hj] at hf;cases hf
   |some j=>
    rw [hj] at hf
    obtain ⟨-,h2,s',v,h3⟩:=opIdx_lt hj
    simp only [Nat.sub_zero,List.getD_eq_getElem?_getD] at h3 hf
    rw [h3] at hf
    simp at hf
    subst hf
    exact (h.op.2 _ (List.mem_of_getElem? h3)).2.2.1
  simp [hl]
theorem OkD.rot {n k:Nat} {D:DM} (h:OkD n k D) (i:Int):OkD n k (D.rot i)∧(D.rot i).op=D.op∧(D.rot i).steps=D.steps:=by
 unfold DM.rot
 split
 ·exact ⟨⟨h.dead,h.after,by simp only [DM.setc,List.length_set];exact h.len,h.steps,h.op,h.room⟩,rfl,rfl⟩
 ·exact ⟨h,rfl,rfl⟩
theorem OkD.read_rot {n k:Nat} {D:DM} (h:OkD n k D) (ho:D.op = []) {i:Int} (h0:0≤i) (h1:i < n) {q:Int} (q0:0≤q) (q1:q < n):(D.rot i).read q=if q=i then (zeroSec,221) else D.read q:=by
 obtain ⟨r1,r2,-⟩:=h.rot i
 have g:∀E:DM,E.op = []→E.get q = []:=fun E hE=>by rw [get_find,hE];rfl
 rw [r1.read q0 q1,h.read q0 q1,g _ (r2.trans ho),g _ ho]
 simp only [List.length_nil,Nat.lt_irrefl,if_false]
 have hc:(D.rot i).cell q=if q=i then ⟨zeroSec,true⟩ else D.cell q:=by
  unfold DM.rot DM.cell
  rw [if_pos (h.check0 h0 h1)]
  unfold DM.setc
  simp only [List.getD_eq_getElem?_getD,List.getElem?_set]
  have hl:=h.len
  by_cases e:q=i
  ·subst e;rw [if_pos rfl,if_pos rfl,if_pos (by omega)];rfl
  ·rw [if_neg e,if_neg (by omega)]
 rw [hc]
 by_cases e:q=i
 ·rw [if_pos e,if_pos e];rfl
 ·rw [if_neg e,if_neg e]
theorem newD_ok (n:Nat):OkD n 0 (newD n):=⟨rfl,rfl,by simp [newD],by simp [newD],⟨by simp [newD],by simp [newD]⟩,by simp [newD]⟩
structure PPut where
 sec:Int
 dat:Sec
instance:Inhabited PPut:=⟨⟨0,zeroSec⟩⟩
def putL (p:PPut):List PV:=pint p.sec :: secL p.dat
theorem putL_len (p:PPut):(putL p).length=65:=by simp [putL,secL_len]
theorem putL_one (p:PPut):(putL p).all PV.one=true:=by rw [putL,List.all_cons,secL_one];rfl
theorem putL_bare (p:PPut):(putL p).map PV.bare=putL p:=by rw [putL,List.map_cons,secL_bare];rfl
def DM.puts (D:DM):List PPut→DM
 | []=>D
 |p :: l=>DM.puts (D.write p.sec p.dat).2 l
theorem puts_snoc (D:DM) (l:List PPut) (p:PPut):D.puts (l ++ [p])=((D.puts l).write p.sec p.dat).2:=by
 induction l generalizing D with
 |nil=>rfl
 |cons q l ih=>rw [List.cons_append,DM.puts,DM.puts,ih]
def InD (n:Nat) (l:List PPut):Prop:=∀p∈l,0≤p.sec∧p.sec < n
theorem OkD.puts {n:Nat} : ∀(l:List PPut) {k:Nat} {D:DM},OkD n k D→InD n l→k+l.length≤1000000000→OkD n (k+l.length) (D.puts l)∧(D.puts l).steps=D.steps+l.length
 | [],k,D,h,_,_=>⟨h,by simp [DM.puts]⟩
 |p :: l,k,D,h,hi,hk=>by
  simp only [List.length_cons] at hk
  obtain ⟨h0,h1⟩:=hi p (List.mem_cons_self ..)
  obtain ⟨w1,w2,w3⟩:=h.write h0 h1 (by omega) p.dat
  obtain ⟨i1,i2⟩:=OkD.puts l w2 (fun q hq=>hi q (List.mem_cons_of_mem _ hq)) (by omega)
  rw [DM.puts]
  refine ⟨?_,by rw [i2,w3];simp only [List.length_cons];omega⟩
  rw [List.length_cons,show k+(l.length+1)=k+1+l.length by omega]
  exact i1
def lastP (q:Int):List PPut→Option Sec
 | []=>none
 |p :: l=>match lastP q l with
  |some s=>some s
  |none=>if p.sec=q then some p.dat else none
theorem OkD.read_puts {n:Nat} : ∀(l:List PPut) {k:Nat} {D:DM},OkD n k D→InD n l→k+l.length≤1000000000→∀{q:Int},0≤q→q < n→(D.puts l).read q=match lastP q l with
  |some s=>(s,0)
  |none=>D.read q
 | [],k,D,h,_,_,q,_,_=>rfl
 |p :: l,k,D,h,hi,hk,q,q0,q1=>by
  simp only [List.length_cons] at hk
  obtain ⟨h0,h1⟩:=hi p (List.mem_cons_self ..)
  obtain ⟨w1,w2,w3⟩:=h.write h0 h1 (by omega) p.dat
  rw [DM.puts,OkD.read_puts l w2 (fun q hq=>hi q (List.mem_cons_of_mem _ hq)) (by omega) q0 q1,lastP]
  cases lastP q l with
  |some s=>rfl
  |none=>
   simp only
   rw [h.read_write h0 h1 (by omega) p.dat q0 q1]
   by_cases e:q=p.sec
   ·rw [if_pos e,if_pos e.symm]
   ·rw [if_neg e,if_neg (fun h=>e h.symm)]
end
end Go.Proofs.YtmeekbjhpidcgaaDoor
