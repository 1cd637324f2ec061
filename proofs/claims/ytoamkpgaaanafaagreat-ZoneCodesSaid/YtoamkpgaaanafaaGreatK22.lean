/- Out of: Zt, Qa. -/
import Derived.Test.YtoamkpgaaanafaaGreatK1
import Derived.Test.YtoamkpgaaanafaaGreatK2
import Derived.Test.YtoamkpgaaanafaaGreatK4
import Derived.Test.YtoamkpgaaanafaaGreatK5
import Derived.Test.YtoamkpgaaanafaaGreatK6
import Derived.Test.YtoamkpgaaanafaaGreatK8
import Derived.Test.YtoamkpgaaanafaaGreatK9
import Derived.Test.YtoamkpgaaanafaaGreatK10
import Derived.Test.YtoamkpgaaanafaaGreatK11
import Derived.Test.YtoamkpgaaanafaaGreatK12
import Derived.Test.YtoamkpgaaanafaaGreatK13
import Derived.Test.YtoamkpgaaanafaaGreatK14
import Derived.Test.YtoamkpgaaanafaaGreatK15
import Derived.Test.YtoamkpgaaanafaaGreatK16
import Derived.Test.YtoamkpgaaanafaaGreatK18
import Derived.Test.YtoamkpgaaanafaaGreatK19
import Derived.Test.YtoamkpgaaanafaaGreatK20
namespace Go.Proofs.YtoamkpgaaanafaaGreat
set_option linter.unusedSimpArgs false
set_option linter.unusedVariables false
set_option linter.unnecessarySimpa false
section
open Go.RowKit
def zBound (s:PSchema) (z:PSum) (v keys:List Int):Int×Int:=
 if (boxNear s.metric z.box v).2≠0∨(lowP s.metric z.shells keys).2≠0 then (0,1) else (max (boxNear s.metric z.box v).1 (lowP s.metric z.shells keys).1,0)
set_option maxRecDepth 10000 in
set_option maxHeartbeats 1000000 in
theorem pw_zBound (s:PSchema) (z:PSum) (v keys:List Int) (hz:SmallZ z) (h1:v.length≤1000000) (h2:keys.length≤1000000):PCalls Tryz.prog 25 [pschema s,psum z,pints v,pints keys] (· = .tup [pint (zBound s z v keys).1,pint (zBound s z v keys).2]):=by
 obtain ⟨z1,z2,z3,z4,z5⟩:=hz
 have c1:=pw_boxNear s.metric z.box v z1 z2 h1
 have c2:=pw_pLow s.metric z.shells keys z3 h2
 have hlz:=low_psumL z
 have hls:=low_schCells s
 refine pcalls_of_pw typeTab_ok Tryz.func25 rfl (by kernel_rfl) (by simp [low_psum,low_pschema,low_pints]) (by simp [psum,psumL,pschema,pints,PV.ownB]) (by rw [Tryz.ntmps25];simp) ?_
 rw [Tryz.ntmps25,Tryz.results25]
 unfold zBound
 unfold psum psumL at *
 unfold pbox pboxL at c1
 generalize boxNear s.metric z.box v=r1 at *
 generalize lowP s.metric z.shells keys=r2 at *
 obtain ⟨a1,a2⟩:=r1
 obtain ⟨b1,b2⟩:=r2
 by_cases e1:a2=0
 ·by_cases e2:b2=0
  ·refine wk ?_
   refine retP (r:=.tup [pint (max a1 b1),pint 0]) ?_ (by simp [low_tup,low_pint]) (by rw [if_neg (by simp [e1,e2])])
   rw [show max a1 b1=(if b1 > a1 then b1 else a1) from by split<;>omega]
   rfl
  ·rw [if_pos (.inr e2)]
   refine wk ?_
   exact retP (r:=.tup [pint 0,pint 1]) rfl (by simp [low_tup,low_pint]) rfl
 ·rw [if_pos (.inl e1)]
  refine wk ?_
  exact retP (r:=.tup [pint 0,pint 1]) rfl (by simp [low_tup,low_pint]) rfl
structure PSnap where
 day:Int
 commit:Int
 deriving Inhabited
def psnap (a:PSnap):PV:=.agg [pint a.day,pint a.commit]
theorem low_psnap (a:PSnap):Low (psnap a)↔True:=by simp [psnap,low_agg,low_pint]
def zSeen (z:PSum) (a:PSnap):Bool:=decide (z.fromLo≤a.day) && (decide (a.day < z.toHi) && decide (z.bornLo≤a.commit))
set_option maxRecDepth 10000 in
set_option maxHeartbeats 1000000 in
theorem pw_zSeen (z:PSum) (a:PSnap):PCalls Tryz.prog 27 [psum z,psnap a] (· = pbool (zSeen z a)):=by
 refine pcalls_of_pw typeTab_ok Tryz.func27 rfl (by kernel_rfl) (by simp [low_psum,low_psnap]) (by simp [psum,psnap,PV.ownB]) (by rw [Tryz.ntmps27];simp) ?_
 rw [Tryz.ntmps27,Tryz.results27]
 unfold zSeen
 have hlz:=low_psumL z
 unfold psum psumL psnap at *
 by_cases e1:z.fromLo≤a.day
 ·by_cases e2:a.day < z.toHi
  ·by_cases e3:z.bornLo≤a.commit
   ·refine wk ?_
    exact retP rfl (by exact lw) (by simp [pbool,e1,e2,e3])
   ·refine wk ?_
    exact retP rfl (by exact lw) (by simp [pbool,e3])
  ·refine wk ?_
   exact retP rfl (by exact lw) (by simp [pbool,e2])
 ·refine wk ?_
  exact retP rfl (by exact lw) (by simp [pbool,e1])
def shN (l:List PShell):List Int:=l.flatMap fun s => [s.lo,s.hi]
def flN (l:List PField):List Int:=l.flatMap fun f => [f.has,f.lo,f.hi,(f.words.length:Int)]
def flW (l:List PField):List ByteArray:=l.flatMap (·.words)
def headZ (z:PSum):List Int := [z.count,z.fromLo,z.fromHi,z.toHi,z.bornLo,z.bornHi]
def boxN (z:PSum):List Int:=headZ z ++ (z.box.lo.length:Int) :: z.box.lo ++ (z.box.hi.length:Int) :: z.box.hi
def numsZ (z:PSum):List Int:=boxN z ++ (z.shells.length:Int) :: shN z.shells ++ (z.fields.length:Int) :: flN z.fields
def encZ (z:PSum):List Int:=intsB (numsZ z) ++ strsB (flW z.fields)
theorem shN_len (l:List PShell):(shN l).length=2 * l.length:=by
 induction l with
 |nil=>rfl
 |cons a r ih=>simp only [shN,List.flatMap_cons,List.length_append,List.length_cons,List.length_nil] at *; omega
theorem flN_len (l:List PField):(flN l).length=4 * l.length:=by
 induction l with
 |nil=>rfl
 |cons a r ih=>simp only [flN,List.flatMap_cons,List.length_append,List.length_cons,List.length_nil] at *; omega
theorem boxN_len (z:PSum):(boxN z).length=8+z.box.lo.length+z.box.hi.length:=by
 simp only [boxN,headZ,List.length_append,List.length_cons,List.length_nil];omega
theorem numsZ_len (z:PSum):(numsZ z).length=10+z.box.lo.length+z.box.hi.length+2 * z.shells.length+4 * z.fields.length:=by
 simp only [numsZ,List.length_append,List.length_cons,boxN_len,shN_len,flN_len];omega
theorem getD_at {α:Type} [Inhabited α] {l:List α} {k:Nat} (h:k < l.length):l.getD k default=l[k]:=by rw [List.getD_eq_getElem?_getD,List.getElem?_eq_getElem h];rfl
theorem shN_take {l:List PShell} {k:Nat} (h:k < l.length):shN (l.take (k+1))=shN (l.take k) ++ [(l.getD k default).lo,(l.getD k default).hi]:=by
 unfold shN
 rw [List.take_add_one,List.getElem?_eq_getElem h,List.flatMap_append,getD_at h]
 simp
theorem flN_take {l:List PField} {k:Nat} (h:k < l.length):flN (l.take (k+1))=flN (l.take k) ++ [(l.getD k default).has,(l.getD k default).lo,(l.getD k default).hi,((l.getD k default).words.length:Int)]:=by
 unfold flN
 rw [List.take_add_one,List.getElem?_eq_getElem h,List.flatMap_append,getD_at h]
 simp
theorem flW_take {l:List PField} {k:Nat} (h:k < l.length):flW (l.take (k+1))=flW (l.take k) ++ (l.getD k default).words:=by
 unfold flW
 rw [List.take_add_one,List.getElem?_eq_getElem h,List.flatMap_append,getD_at h]
 simp
theorem flW_le (l:List PField) (k:Nat):(flW (l.take k)).length≤(flW l).length:=by
 conv=>rhs;rw [←List.take_append_drop k l]
 unfold flW
 rw [List.flatMap_append,List.length_append];omega
theorem flW_word (l:List PField) {k:Nat} (h:k < l.length):(l.getD k default).words.length≤(flW l).length:=by
 have h1:=flW_le l (k+1)
 rw [flW_take h,List.length_append] at h1
 omega
structure EncOK (z:PSum):Prop where
 head:Fit (headZ z)
 lo:Fit z.box.lo
 hi:Fit z.box.hi
 shells:∀s∈z.shells,Fit64 s.lo∧Fit64 s.hi
 fields:∀f∈z.fields,Fit64 f.has∧Fit64 f.lo∧Fit64 f.hi
 n1:z.box.lo.length≤100000
 n2:z.box.hi.length≤100000
 n3:z.shells.length≤100000
 n4:z.fields.length≤100000
 n5:(flW z.fields).length≤100000
 words:SmallStrs (flW z.fields)
theorem numsZ_fit {z:PSum} (h:EncOK z):Fit (numsZ z):=by
 obtain ⟨h1,h2,h3,h4,h5,n1,n2,n3,n4,n5,-⟩:=h
 intro x hx
 simp only [numsZ,boxN,List.mem_append,List.mem_cons] at hx
 rcases hx with ((((hx|hx|hx)|hx|hx)|hx|hx)|hx|hx)
 ·exact h1 x hx
 ·omega
 ·exact h2 x hx
 ·omega
 ·exact h3 x hx
 ·omega
 ·obtain ⟨s,hs,hq⟩:=List.mem_flatMap.1 hx
  obtain ⟨a,b⟩:=h4 s hs
  simp only [List.mem_cons,List.not_mem_nil,or_false] at hq
  rcases hq with rfl|rfl
  ·exact a
  ·exact b
 ·omega
 ·obtain ⟨f,hf,hq⟩:=List.mem_flatMap.1 hx
  obtain ⟨a,b,c⟩:=h5 f hf
  have hw:f.words.length≤(flW z.fields).length:=by
   obtain ⟨k,hk,rfl⟩:=List.getElem_of_mem hf
   have:=flW_word z.fields hk
   rwa [List.getD_eq_getElem?_getD,List.getElem?_eq_getElem hk] at this
  simp only [List.mem_cons,List.not_mem_nil,or_false] at hq
  rcases hq with rfl|rfl|rfl|rfl
  ·exact a
  ·exact b
  ·exact c
  ·omega
theorem strsB_len2 (l:List ByteArray) (h:SmallStrs l) (hl:l.length≤100000):(strsB l).length≤1000010 * l.length+10:=by
 have h1:=strs_len l h
 have h2:=intB_len l.length (by omega) (by omega)
 rw [strsB,List.length_append];omega
theorem intsB_len2 (l:List Int) (h:Fit l):(intsB l).length≤10 * l.length+(intB l.length).length:=by
 have:=flat_len l h
 rw [intsB,List.length_append];omega
theorem encZ_bound {z:PSum} (h:EncOK z):(intsB (numsZ z)).length≤10000000∧(strsB (flW z.fields)).length≤100002000000:=by
 have h1:=intsB_len2 (numsZ z) (numsZ_fit h)
 have hl:=numsZ_len z
 obtain ⟨-,-,-,-,-,n1,n2,n3,n4,n5,hw⟩:=h
 have h2:=intB_len (numsZ z).length (by omega) (by omega)
 have h3:=strsB_len2 _ hw n5
 omega
theorem pcStrings (zs:List ByteArray) (hf:SmallStrs zs) (hl:zs.length≤1000000):PCalls Tryz.prog 118 [pstrs zs] (· = pbytesO (strsB zs)):=
 pcalls1 (by kernel_rfl) fun Φ μ w v himm hr=>(wireStrings v zs w (strs_of_rep himm hr) hf hl).mono (by
  rintro e w' ⟨u,rfl,ho,hb⟩
  exact post_own himm (plain_int _) ho hb)
set_option maxRecDepth 10000 in
set_option maxHeartbeats 4000000 in
theorem pw_zEncode (z:PSum) (hz:EncOK z):PCalls Tryz.prog 46 [psum z] (· = pbytesO (encZ z)):=by
 have hlz:=low_psumL z
 have hlz1:Low (.ep (psumL z) 0):=.ep _ _ hlz
 obtain ⟨b1,b2⟩:=encZ_bound hz
 have hnf:=numsZ_fit hz
 have hnl:=numsZ_len z
 have hz2:=hz
 obtain ⟨-,-,-,-,-,n1,n2,n3,n4,n5,hw⟩:=hz2
 have hlsh:Low (pshells z.shells):=(low_pshells _).2 trivial
 have hlfl:Low (pflds z.fields):=(low_pflds _).2 trivial
 refine pcalls_of_pw typeTab_ok Tryz.func46 rfl (by kernel_rfl) (by simp [low_psum]) (by simp [psum,psumL,PV.ownB]) (by rw [Tryz.ntmps46];simp) ?_
 rw [Tryz.ntmps46,Tryz.results46]
 refine PW.seq ?_
 refine PW.region typeTab_ok (by kernel_rfl) ?_
 refine wg ?_
 refine PW.freezeP (id:=0) (s:=1) (off:=0) (σ':=bot) rfl rfl hlz (by exact sbr0) rfl ?_
 refine wk ?_
 refine PW.loop (fun k:Nat=>((((bot.put 1 (.ep (psumL z) 0)).put 3 (if k=0 then .sl 6 1 ((headZ z).map pint) (some 3) else if k=1 then .sl (7+z.box.lo.length) 1 ((headZ z ++ (z.box.lo.length:Int) :: z.box.lo).map pint) (some 3) else .sl (8+z.box.lo.length+z.box.hi.length) 1 ((boxN z).map pint) (some 3))).put 30 (.sl 2 1 [pints z.box.lo,pints z.box.hi] none)).put 31 (pint 2)).put 32 (pint k)) (fun k=>k≤2) (fun k=>2 - k) 0 (by omega) ?_ ?_
 ·exact sb
 intro k hk
 rcases (show k=0∨k=1∨k=2 by omega) with rfl|rfl|rfl
 ·simp only [if_true]
  refine wk ?_
  refine loopP 1 (by omega) (by omega) ?_
  simp only [if_true,if_neg (show ¬(1:Nat)=0 by omega)]
  (refine Sub.same ?_;(repeat (first|exact SubR.bot|((with_reducible refine SubR.isp ?_);refine SubR.put ?_ (by exact rq0))|((with_reducible refine SubR.isb ?_);refine SubR.setb ?_ rfl rfl (by exact rl0))|((with_reducible refine SubR.ism ?_);refine SubR.setm ?_ rfl rfl (by (first|exact ⟨rfl,rfl,rfl,rfl,rfl⟩|exact RenM.low (by first|assumption|exact hlowm _|exact hlowm _ _))))|refine SubR.put ?_ (.inl (ren_eqlow (sl_eq ?_ ?_) (by exact lw))))))
  all_goals first|omega|(simp [headZ,pint];done)|(simp [headZ,pint];omega)
 ·simp only [if_true,if_neg (show ¬(1:Nat)=0 by omega)]
  refine wk ?_
  refine loopP 2 (by omega) (by omega) ?_
  simp only [if_neg (show ¬(2:Nat)=0 by omega),if_neg (show ¬(2:Nat)=1 by omega)]
  (refine Sub.same ?_;(repeat (first|exact SubR.bot|((with_reducible refine SubR.isp ?_);refine SubR.put ?_ (by exact rq0))|((with_reducible refine SubR.isb ?_);refine SubR.setb ?_ rfl rfl (by exact rl0))|((with_reducible refine SubR.ism ?_);refine SubR.setm ?_ rfl rfl (by (first|exact ⟨rfl,rfl,rfl,rfl,rfl⟩|exact RenM.low (by first|assumption|exact hlowm _|exact hlowm _ _))))|refine SubR.put ?_ (.inl (ren_eqlow (sl_eq ?_ ?_) (by exact lw))))))
  all_goals first|omega|(simp [boxN,headZ,pint];done)|(simp [boxN,headZ,pint];omega)
 ·simp only [if_neg (show ¬(2:Nat)=0 by omega),if_neg (show ¬(2:Nat)=1 by omega)]
  refine wk ?_
  refine PW.loop (fun k:Nat=>((((bot.put 1 (.ep (psumL z) 0)).put 3 (.sl (9+z.box.lo.length+z.box.hi.length+2 * k) 1 ((boxN z ++ (z.shells.length:Int) :: shN (z.shells.take k)).map pint) (some 3))).put 51 (pshells z.shells)).put 52 (pint z.shells.length)).put 53 (pint k)) (fun k=>k≤z.shells.length) (fun k=>z.shells.length - k) 0 (by omega) ?_ ?_
  ·(refine Sub.same ?_;(repeat (first|exact SubR.bot|((with_reducible refine SubR.isp ?_);refine SubR.put ?_ (by exact rq0))|((with_reducible refine SubR.isb ?_);refine SubR.setb ?_ rfl rfl (by exact rl0))|((with_reducible refine SubR.ism ?_);refine SubR.setm ?_ rfl rfl (by (first|exact ⟨rfl,rfl,rfl,rfl,rfl⟩|exact RenM.low (by first|assumption|exact hlowm _|exact hlowm _ _))))|refine SubR.put ?_ (.inl (ren_eqlow (sl_eq ?_ ?_) (by exact lw))))))
   all_goals first|omega|(simp [shN,pint];done)
  intro k hk
  by_cases hlt:k < z.shells.length
  ·have hlsk:=low_pshL (z.shells.getD k default)
   refine wk ?_
   refine loopP (k+1) (by omega) (by omega) ?_
   (refine Sub.same ?_;(repeat (first|exact SubR.bot|((with_reducible refine SubR.isp ?_);refine SubR.put ?_ (by exact rq0))|((with_reducible refine SubR.isb ?_);refine SubR.setb ?_ rfl rfl (by exact rl0))|((with_reducible refine SubR.ism ?_);refine SubR.setm ?_ rfl rfl (by (first|exact ⟨rfl,rfl,rfl,rfl,rfl⟩|exact RenM.low (by first|assumption|exact hlowm _|exact hlowm _ _))))|refine SubR.put ?_ (.inl (ren_eqlow (sl_eq ?_ ?_) (by exact lw))))))
   ·omega
   ·rw [shN_take hlt];simp [pint]
  have e:z.shells.take k=z.shells:=List.take_of_length_le (by omega)
  simp only [e]
  refine wk ?_
  refine PW.loop (fun j:Nat=>((((bot.put 3 (.sl (10+z.box.lo.length+z.box.hi.length+2 * k+4 * j) 1 ((boxN z ++ (z.shells.length:Int) :: shN z.shells ++ (z.fields.length:Int) :: flN (z.fields.take j)).map pint) (some 3))).put 8 (.sl (flW (z.fields.take j)).length 1 ((flW (z.fields.take j)).map pstr) (some 9))).put 72 (pflds z.fields)).put 73 (pint z.fields.length)).put 74 (pint j)) (fun j=>j≤z.fields.length) (fun j=>z.fields.length - j) 0 (by omega) ?_ ?_
  ·(refine Sub.same ?_;(repeat (first|exact SubR.bot|((with_reducible refine SubR.isp ?_);refine SubR.put ?_ (by exact rq0))|((with_reducible refine SubR.isb ?_);refine SubR.setb ?_ rfl rfl (by exact rl0))|((with_reducible refine SubR.ism ?_);refine SubR.setm ?_ rfl rfl (by (first|exact ⟨rfl,rfl,rfl,rfl,rfl⟩|exact RenM.low (by first|assumption|exact hlowm _|exact hlowm _ _))))|refine SubR.put ?_ (.inl (ren_eqlow (sl_eq ?_ ?_) (by exact lw))))))
   all_goals first|omega|(simp [flN,pint];done)
  intro j hj
  by_cases hlj:j < z.fields.length
  ·have hlfk:=low_pfldL (z.fields.getD j default)
   have w1:=flW_le z.fields j
   have w2:=flW_word z.fields hlj
   refine wk ?_
   refine loopP (j+1) (by omega) (by omega) ?_
   (refine Sub.same ?_;(repeat (first|exact SubR.bot|((with_reducible refine SubR.isp ?_);refine SubR.put ?_ (by exact rq0))|((with_reducible refine SubR.isb ?_);refine SubR.setb ?_ rfl rfl (by exact rl0))|((with_reducible refine SubR.ism ?_);refine SubR.setm ?_ rfl rfl (by (first|exact ⟨rfl,rfl,rfl,rfl,rfl⟩|exact RenM.low (by first|assumption|exact hlowm _|exact hlowm _ _))))|refine SubR.put ?_ (.inl (ren_eqlow (sl_eq ?_ ?_) (by exact lw))))))
   ·omega
   ·rw [flN_take hlj];simp [pint]
   ·rw [flW_take hlj];simp
   ·rw [flW_take hlj];simp
  have ej:z.fields.take j=z.fields:=List.take_of_length_le (by omega)
  simp only [ej]
  have hc1:=pcInts (numsZ z) hnf (by omega)
  have hc2:=pcStrings (flW z.fields) hw (by omega)
  have e1:PV.sl (10+z.box.lo.length+z.box.hi.length+2 * k+4 * j) 1 ((boxN z ++ (z.shells.length:Int) :: shN z.shells ++ (z.fields.length:Int) :: flN z.fields).map pint) none=pints (numsZ z):=sl_eq (by rw [hnl];omega) rfl
  have e2:PV.sl (flW z.fields).length 1 ((flW z.fields).map pstr) none=pstrs (flW z.fields):=rfl
  refine wk ?_
  refine PWops.call rfl rfl rfl (by first|(rw [e1];exact hc1)|exact hc1) ?_
  refine wk ?_
  refine retP rfl (.sl _ _ _ _ (fun c hc=>by simp at hc;rcases hc with ⟨z,-,rfl⟩|⟨z,-,rfl⟩<;>exact .val _)) ?_
  exact sl_eq (by simp [encZ]) (by simp [encZ])
end
end Go.Proofs.YtoamkpgaaanafaaGreat
