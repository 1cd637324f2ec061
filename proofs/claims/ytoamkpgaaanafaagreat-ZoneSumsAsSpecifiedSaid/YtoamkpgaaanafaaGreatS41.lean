/- Merged: Qa, Vh, Yc. -/
import Derived.Test.YtoamkpgaaanafaaGreatS16
import Derived.Test.YtoamkpgaaanafaaGreatS27
import Derived.Test.YtoamkpgaaanafaaGreatS34
import Derived.Test.YtoamkpgaaanafaaGreatS35
/- zone: the numbers and words of a summary; Encode. -/
namespace Go.Proofs.YtoamkpgaaanafaaGreat
set_option linter.unusedSimpArgs false
set_option linter.unusedVariables false
set_option linter.unnecessarySimpa false
open Go.RowKit
def shN (l:List PShell):List Int:=l.flatMap fun s => [s.lo,s.hi]
def flN (l:List PField):List Int:=l.flatMap fun f => [f.has,f.lo,f.hi,(f.words.length:Int)]
def flW (l:List PField):List ByteArray:=l.flatMap (·.words)
def headZ (z:PSum):List Int := [z.count,z.fromLo,z.fromHi,z.toHi,z.bornLo,z.bornHi]
def boxN (z:PSum):List Int:=headZ z ++ (z.box.lo.length:Int) :: z.box.lo ++ (z.box.hi.length:Int) :: z.box.hi
def numsZ (z:PSum):List Int:=boxN z ++ (z.shells.length:Int) :: shN z.shells ++ (z.fields.length:Int) :: flN z.fields
def encZ (z:PSum):List Int:=intsB (numsZ z) ++ strsB (flW z.fields)
theorem shN_len (l:List PShell):(shN l).length=2 * l.length:=by
 induction l with
 |nil=>rfl
 |cons a r ih=>simp only [shN,List.flatMap_cons,List.length_append,List.length_cons,List.length_nil] at *; omega
theorem flN_len (l:List PField):(flN l).length=4 * l.length:=by
 induction l with
 |nil=>rfl
 |cons a r ih=>simp only [flN,List.flatMap_cons,List.length_append,List.length_cons,List.length_nil] at *; omega
theorem boxN_len (z:PSum):(boxN z).length=8+z.box.lo.length+z.box.hi.length:=by
 simp only [boxN,headZ,List.length_append,List.length_cons,List.length_nil];omega
theorem numsZ_len (z:PSum):(numsZ z).length=10+z.box.lo.length+z.box.hi.length+2 * z.shells.length+4 * z.fields.length:=by
 simp only [numsZ,List.length_append,List.length_cons,boxN_len,shN_len,flN_len];omega
theorem getD_at {α:Type} [Inhabited α] {l:List α} {k:Nat} (h:k < l.length):l.getD k default=l[k]:=by rw [List.getD_eq_getElem?_getD,List.getElem?_eq_getElem h];rfl
theorem shN_take {l:List PShell} {k:Nat} (h:k < l.length):shN (l.take (k+1))=shN (l.take k) ++ [(l.getD k default).lo,(l.getD k default).hi]:=by
 unfold shN
 rw [List.take_add_one,List.getElem?_eq_getElem h,List.flatMap_append,getD_at h]
 simp
theorem flN_take {l:List PField} {k:Nat} (h:k < l.length):flN (l.take (k+1))=flN (l.take k) ++ [(l.getD k default).has,(l.getD k default).lo,(l.getD k default).hi,((l.getD k default).words.length:Int)]:=by
 unfold flN
 rw [List.take_add_one,List.getElem?_eq_getElem h,List.flatMap_append,getD_at h]
 simp
theorem flW_take {l:List PField} {k:Nat} (h:k < l.length):flW (l.take (k+1))=flW (l.take k) ++ (l.getD k default).words:=by
 unfold flW
 rw [List.take_add_one,List.getElem?_eq_getElem h,List.flatMap_append,getD_at h]
 simp
theorem flW_le (l:List PField) (k:Nat):(flW (l.take k)).length≤(flW l).length:=by
 conv=>rhs;rw [←List.take_append_drop k l]
 unfold flW
 rw [List.flatMap_append,List.length_append];omega
theorem flW_word (l:List PField) {k:Nat} (h:k < l.length):(l.getD k default).words.length≤(flW l).length:=by
 have h1:=flW_le l (k+1)
 rw [flW_take h,List.length_append] at h1
 omega
structure EncOK (z:PSum):Prop where
 head:Fit (headZ z)
 lo:Fit z.box.lo
 hi:Fit z.box.hi
 shells:∀s∈z.shells,Fit64 s.lo∧Fit64 s.hi
 fields:∀f∈z.fields,Fit64 f.has∧Fit64 f.lo∧Fit64 f.hi
 n1:z.box.lo.length≤100000
 n2:z.box.hi.length≤100000
 n3:z.shells.length≤100000
 n4:z.fields.length≤100000
 n5:(flW z.fields).length≤100000
 words:SmallStrs (flW z.fields)
theorem numsZ_fit {z:PSum} (h:EncOK z):Fit (numsZ z):=by
 obtain ⟨h1,h2,h3,h4,h5,n1,n2,n3,n4,n5,-⟩:=h
 intro x hx
 simp only [numsZ,boxN,List.mem_append,List.mem_cons] at hx
 rcases hx with ((((hx|hx|hx)|hx|hx)|hx|hx)|hx|hx)
 ·exact h1 x hx
 ·omega
 ·exact h2 x hx
 ·omega
 ·exact h3 x hx
 ·omega
 ·obtain ⟨s,hs,hq⟩:=List.mem_flatMap.1 hx
  obtain ⟨a,b⟩:=h4 s hs
  simp only [List.mem_cons,List.not_mem_nil,or_false] at hq
  rcases hq with rfl|rfl
  ·exact a
  ·exact b
 ·omega
 ·obtain ⟨f,hf,hq⟩:=List.mem_flatMap.1 hx
  obtain ⟨a,b,c⟩:=h5 f hf
  have hw:f.words.length≤(flW z.fields).length:=by
   obtain ⟨k,hk,rfl⟩:=List.getElem_of_mem hf
   have:=flW_word z.fields hk
   rwa [List.getD_eq_getElem?_getD,List.getElem?_eq_getElem hk] at this
  simp only [List.mem_cons,List.not_mem_nil,or_false] at hq
  rcases hq with rfl|rfl|rfl|rfl
  ·exact a
  ·exact b
  ·exact c
  ·omega
theorem strsB_len2 (l:List ByteArray) (h:SmallStrs l) (hl:l.length≤100000):(strsB l).length≤1000010 * l.length+10:=by
 have h1:=strs_len l h
 have h2:=intB_len l.length (by omega) (by omega)
 rw [strsB,List.length_append];omega
theorem intsB_len2 (l:List Int) (h:Fit l):(intsB l).length≤10 * l.length+(intB l.length).length:=by
 have:=flat_len l h
 rw [intsB,List.length_append];omega
theorem encZ_bound {z:PSum} (h:EncOK z):(intsB (numsZ z)).length≤10000000∧(strsB (flW z.fields)).length≤100002000000:=by
 have h1:=intsB_len2 (numsZ z) (numsZ_fit h)
 have hl:=numsZ_len z
 obtain ⟨-,-,-,-,-,n1,n2,n3,n4,n5,hw⟩:=h
 have h2:=intB_len (numsZ z).length (by omega) (by omega)
 have h3:=strsB_len2 _ hw n5
 omega
end Go.Proofs.YtoamkpgaaanafaaGreat

/- The specification's Encode, Same, Few. -/
namespace Go.Proofs.YtoamkpgaaanafaaGreat
set_option linter.unusedSimpArgs false
set_option linter.unusedVariables false
set_option linter.unnecessarySimpa false
open Go.RowKit
set_option maxRecDepth 10000 in
set_option maxHeartbeats 4000000 in
theorem pw_rEncode (z:PSum) (hz:EncOK z):PCalls Tryz.prog 49 [psum z] (· = pbytesO (encZ z)):=by
 have hlz:=low_psumL z
 have hlz1:Low (.ep (psumL z) 0):=.ep _ _ hlz
 obtain ⟨b1,b2⟩:=encZ_bound hz
 have hnf:=numsZ_fit hz
 have hnl:=numsZ_len z
 have hz2:=hz
 obtain ⟨-,-,-,-,-,n1,n2,n3,n4,n5,hw⟩:=hz2
 have hlsh:Low (pshells z.shells):=(low_pshells _).2 trivial
 have hlfl:Low (pflds z.fields):=(low_pflds _).2 trivial
 refine pcalls_of_pw typeTab_ok Tryz.func49 rfl (by kernel_rfl) (by simp [low_psum]) (by simp [psum,psumL,PV.ownB]) (by rw [Tryz.ntmps49];simp) ?_
 rw [Tryz.ntmps49,Tryz.results49]
 refine PW.seq ?_
 refine PW.region typeTab_ok (by kernel_rfl) ?_
 refine wg ?_
 refine PW.freezeP (id:=0) (s:=1) (off:=0) (σ':=bot) rfl rfl hlz (by exact sbr0) rfl ?_
 refine wk ?_
 refine PW.loop (fun k:Nat=>(bot.put 1 (.ep (psumL z) 0) |>.put 3 (.sl (9+z.box.lo.length+z.box.hi.length+2 * k) 1 ((boxN z ++ (z.shells.length:Int) :: shN (z.shells.take k)).map pint) (some 3)) |>.put 4 (pint k))) (fun k=>k≤z.shells.length) (fun k=>z.shells.length - k) 0 (by omega) ?_ ?_
 ·(refine Sub.same ?_;(repeat (first|exact SubR.bot|((with_reducible refine SubR.isp ?_);refine SubR.put ?_ (by exact rq0))|((with_reducible refine SubR.isb ?_);refine SubR.setb ?_ rfl rfl (by exact rl0))|((with_reducible refine SubR.ism ?_);refine SubR.setm ?_ rfl rfl (by (first|exact ⟨rfl,rfl,rfl,rfl,rfl⟩|exact RenM.low (by first|assumption|exact hlowm _|exact hlowm _ _))))|refine SubR.put ?_ (.inl (ren_eqlow (sl_eq ?_ ?_) (by exact lw))))))
  ·omega
  ·simp [shN,boxN,headZ,pint]
 intro k hk
 by_cases hlt:k < z.shells.length
 ·have hlsk:=low_pshL (z.shells.getD k default)
  refine wk ?_
  refine loopP (k+1) (by omega) (by omega) ?_
  (refine Sub.same ?_;(repeat (first|exact SubR.bot|((with_reducible refine SubR.isp ?_);refine SubR.put ?_ (by exact rq0))|((with_reducible refine SubR.isb ?_);refine SubR.setb ?_ rfl rfl (by exact rl0))|((with_reducible refine SubR.ism ?_);refine SubR.setm ?_ rfl rfl (by (first|exact ⟨rfl,rfl,rfl,rfl,rfl⟩|exact RenM.low (by first|assumption|exact hlowm _|exact hlowm _ _))))|refine SubR.put ?_ (.inl (ren_eqlow (sl_eq ?_ ?_) (by exact lw))))))
  ·omega
  ·rw [shN_take hlt];simp [pint]
 have e:z.shells.take k=z.shells:=List.take_of_length_le (by omega)
 simp only [e]
 refine wk ?_
 refine PW.loop (fun j:Nat=>(bot.put 1 (.ep (psumL z) 0) |>.put 3 (.sl (10+z.box.lo.length+z.box.hi.length+2 * k+4 * j) 1 ((boxN z ++ (z.shells.length:Int) :: shN z.shells ++ (z.fields.length:Int) :: flN (z.fields.take j)).map pint) (some 3)) |>.put 5 (.sl (flW (z.fields.take j)).length 1 ((flW (z.fields.take j)).map pstr) (some 9)) |>.put 6 (pint j))) (fun j=>j≤z.fields.length) (fun j=>z.fields.length - j) 0 (by omega) ?_ ?_
 ·(refine Sub.same ?_;(repeat (first|exact SubR.bot|((with_reducible refine SubR.isp ?_);refine SubR.put ?_ (by exact rq0))|((with_reducible refine SubR.isb ?_);refine SubR.setb ?_ rfl rfl (by exact rl0))|((with_reducible refine SubR.ism ?_);refine SubR.setm ?_ rfl rfl (by (first|exact ⟨rfl,rfl,rfl,rfl,rfl⟩|exact RenM.low (by first|assumption|exact hlowm _|exact hlowm _ _))))|refine SubR.put ?_ (.inl (ren_eqlow (sl_eq ?_ ?_) (by exact lw))))))
  all_goals first|omega|(simp [flN,pint];done)
 intro j hj
 by_cases hlj:j < z.fields.length
 ·have hlfk:=low_pfldL (z.fields.getD j default)
  have w1:=flW_le z.fields j
  have w2:=flW_word z.fields hlj
  refine wk ?_
  refine loopP (j+1) (by omega) (by omega) ?_
  (refine Sub.same ?_;(repeat (first|exact SubR.bot|((with_reducible refine SubR.isp ?_);refine SubR.put ?_ (by exact rq0))|((with_reducible refine SubR.isb ?_);refine SubR.setb ?_ rfl rfl (by exact rl0))|((with_reducible refine SubR.ism ?_);refine SubR.setm ?_ rfl rfl (by (first|exact ⟨rfl,rfl,rfl,rfl,rfl⟩|exact RenM.low (by first|assumption|exact hlowm _|exact hlowm _ _))))|refine SubR.put ?_ (.inl (ren_eqlow (sl_eq ?_ ?_) (by exact lw))))))
  ·omega
  ·rw [flN_take hlj];simp [pint]
  ·rw [flW_take hlj];simp
  ·rw [flW_take hlj];simp
 have ej:z.fields.take j=z.fields:=List.take_of_length_le (by omega)
 simp only [ej]
 have hc1:=pcRefInts (numsZ z) hnf (by omega)
 have hc2:=pcRefStrings (flW z.fields) hw (by omega)
 have e1:PV.sl (10+z.box.lo.length+z.box.hi.length+2 * k+4 * j) 1 ((boxN z ++ (z.shells.length:Int) :: shN z.shells ++ (z.fields.length:Int) :: flN z.fields).map pint) none=pints (numsZ z):=sl_eq (by rw [hnl];omega) rfl
 refine wk ?_
 refine PWops.call rfl rfl rfl (by first|(rw [e1];exact hc1)|exact hc1) ?_
 refine wk ?_
 refine retP rfl (.sl _ _ _ _ (fun c hc=>by simp at hc;rcases hc with ⟨z,-,rfl⟩|⟨z,-,rfl⟩<;>exact .val _)) ?_
 exact sl_eq (by simp [encZ]) (by simp [encZ])
set_option maxRecDepth 10000 in
set_option maxHeartbeats 1000000 in
theorem pw_rSame (x y:PSum) (hx:EncOK x) (hy:EncOK y):PCalls Tryz.prog 17 [psum x,psum y] (· = pbool ((strI (encZ x)).toList == (strI (encZ y)).toList)):=by
 have c1:=pw_rEncode x hx
 have c2:=pw_rEncode y hy
 have hlx:=low_psumL x
 have hly:=low_psumL y
 refine pcalls_of_pw typeTab_ok Tryz.func17 rfl (by kernel_rfl) (by simp [low_psum]) (by simp [psum,psumL,PV.ownB]) (by rw [Tryz.ntmps17];simp) ?_
 rw [Tryz.ntmps17,Tryz.results17]
 generalize encZ x=l1 at *
 generalize encZ y=l2 at *
 cases e:((strI l1).toList == (strI l2).toList) <;>
 ·refine wk ?_
  exact retP rfl (by exact lw) rfl
def fewZ (z:PSum):Bool:=decide (z.box.lo.length≤40) && (decide (z.box.hi.length≤40) && (decide (z.shells.length≤20) && (decide (z.fields.length≤20) && z.fields.all fun f=>decide (f.words.length≤60) && f.words.all fun w=>decide (w.size≤100))))
set_option maxRecDepth 10000 in
set_option maxHeartbeats 2000000 in
theorem pw_rFew (z:PSum) (h1:z.box.lo.length≤20000000000000) (h2:z.box.hi.length≤20000000000000) (h3:z.shells.length≤20000000000000) (h4:z.fields.length≤20000000000000) (h5:∀f∈z.fields,f.words.length≤20000000000000):PCalls Tryz.prog 13 [psum z] (· = pbool (fewZ z)):=by
 have hlz:=low_psumL z
 have g:∀w,fewZ z=w→pbool w=pbool (fewZ z):=fun v h=>by rw [h]
 refine pcalls_of_pw typeTab_ok Tryz.func13 rfl (by kernel_rfl) (by simp [low_pint,low_pints,low_pstr,low_pbool,low_pbox,low_pvecs,low_pentry,low_pentries,low_psum,low_pschema,low_pshells,low_pstrs,low_pfld,low_pdef]) (by simp [pint,pints,pstr,pbool,pbox,pvecs,pentry,pentries,psum,psumL,pschema,pshells,pstrs,pfld,pfldL,pdefL,PV.ownB]) (by rw [Tryz.ntmps13];simp) ?_
 rw [Tryz.ntmps13,Tryz.results13]
 by_cases e1:z.box.lo.length≤40
 rotate_left
 ·unfold psum psumL at *
  refine wk ?_
  exact retP rfl (by exact lw) (g _ (by simp only [fewZ,decide_eq_false e1,Bool.false_and]))
 by_cases e2:z.box.hi.length≤40
 rotate_left
 ·unfold psum psumL at *
  refine wk ?_
  exact retP rfl (by exact lw) (g _ (by simp only [fewZ,decide_eq_false e2,Bool.false_and,Bool.and_false]))
 by_cases e3:z.shells.length≤20
 rotate_left
 ·unfold psum psumL at *
  refine wk ?_
  exact retP rfl (by exact lw) (g _ (by simp only [fewZ,decide_eq_false e3,Bool.false_and,Bool.and_false]))
 by_cases e4:z.fields.length≤20
 rotate_left
 ·unfold psum psumL at *
  refine wk ?_
  exact retP rfl (by exact lw) (g _ (by simp only [fewZ,decide_eq_false e4,Bool.false_and,Bool.and_false]))
 refine wk ?_
 refine PW.loop (fun k:Nat=>(bot.setb 0 (psumL z) |>.put 1 (.ptr 0 0) |>.put 3 (pint k))) (fun k=>k≤z.fields.length∧∀j,j < k→((z.fields.getD j default).words.length≤60∧∀w∈(z.fields.getD j default).words,w.size≤100)) (fun k=>z.fields.length - k) 0 ⟨by omega,by simp⟩ ?_ ?_
 ·exact sb
 rintro k ⟨hk,ha⟩
 by_cases hlt:k < z.fields.length
 ·have hw:=h5 _ (getD_mem hlt)
  have hbad:¬((z.fields.getD k default).words.length≤60∧∀w∈(z.fields.getD k default).words,w.size≤100)→fewZ z=false:=fun h=>by
   have:(z.fields.all fun f=>decide (f.words.length≤60) && f.words.all fun w=>decide (w.size≤100))=false:=by
    rw [List.all_eq_false]
    refine ⟨_,getD_mem hlt,fun h2=>h ?_⟩
    simpa only [Bool.and_eq_true,decide_eq_true_eq,List.all_eq_true] using h2
   simp only [fewZ,this,Bool.and_false]
  by_cases e5:(z.fields.getD k default).words.length≤60
  rotate_left
  ·refine wk ?_
   exact retP rfl (by exact lw) (g _ (hbad fun h=>e5 h.1))
  refine wk ?_
  refine PW.loop (fun j:Nat=>(bot.setb 0 (psumL z) |>.put 1 (.ptr 0 0) |>.put 3 (pint k) |>.put 4 (pint j))) (fun j=>j≤(z.fields.getD k default).words.length∧∀i,i < j→((z.fields.getD k default).words.getD i default).size≤100) (fun j=>(z.fields.getD k default).words.length - j) 0 ⟨by omega,by simp⟩ ?_ ?_
  ·exact sb
  rintro j ⟨hj,hb⟩
  by_cases hlj:j < (z.fields.getD k default).words.length
  ·by_cases e6:((z.fields.getD k default).words.getD j default).size≤100
   ·refine wk ?_
    refine loopP (j+1) ⟨by omega,fun i hi=>?_⟩ (by omega) ?_
    ·rcases Nat.lt_succ_iff_lt_or_eq.1 hi with h|h
     ·exact hb i h
     ·rw [h];exact e6
    ·exact sb
   ·refine wk ?_
    exact retP rfl (by exact lw) (g _ (hbad fun h=>e6 (h.2 _ (getD_mem hlj))))
  ·refine wk ?_
   refine loopP (k+1) ⟨by omega,fun i hi=>?_⟩ (by omega) ?_
   ·rcases Nat.lt_succ_iff_lt_or_eq.1 hi with h|h
    ·exact ha i h
    ·rw [h]
     refine ⟨e5,fun w hw=>?_⟩
     obtain ⟨q,hq,rfl⟩:=List.getElem_of_mem hw
     have:=hb q (by omega)
     rwa [getD_atW hq] at this
   ·exact sb
 ·have hall:(z.fields.all fun f=>decide (f.words.length≤60) && f.words.all fun w=>decide (w.size≤100))=true:=by
   rw [List.all_eq_true]
   intro f hf
   obtain ⟨q,hq,rfl⟩:=List.getElem_of_mem hf
   have:=ha q (by omega)
   rw [getD_atW hq] at this
   simpa only [Bool.and_eq_true,decide_eq_true_eq,List.all_eq_true] using this
  refine wk ?_
  exact retP rfl (by exact lw) (g _ (by rw [fewZ,hall,decide_eq_true e1,decide_eq_true e2,decide_eq_true e3,decide_eq_true e4];rfl))
end Go.Proofs.YtoamkpgaaanafaaGreat

/- zone: Of as specified (no program). -/
namespace Go.Proofs.YtoamkpgaaanafaaGreat
set_option linter.unusedSimpArgs false
set_option linter.unusedVariables false
set_option linter.unnecessarySimpa false
open Go.RowKit
theorem validV_B (v:List Int):validV v=vecB v:=by
 unfold validV vecB
 have:v.all (fun x=>decide (-1000≤x) && decide (x≤1000)) = !v.any farB:=by
  rw [Bool.eq_iff_iff]
  simp only [List.all_eq_true,Bool.and_eq_true,decide_eq_true_eq,Bool.not_eq_true',List.any_eq_false,farB,Bool.or_eq_true,not_or]
  constructor
  ·intro h x hx;have:=h x hx;omega
  ·intro h x hx;have:=h x hx;omega
 rw [this]
 cases (!v.any farB)<;>simp
theorem checkE_met {s:PSchema} (h:checkE s=0):keyB s.metric=true∧(1≤s.dims∧s.dims≤32)∧s.defs.length≤16:=by
 unfold checkE at h
 split at h
 ·simp at h
 ·rename_i h1
  split at h
  ·simp at h
  ·rename_i h2
   refine ⟨?_,by omega,by omega⟩
   simp only [keyB,Bool.and_eq_true,decide_eq_true_eq];omega
theorem entryE_vec {s:PSchema} {e:PEntry} (h:entryE s e=0):vecB e.vec=true∧(e.vec.length:Int)=s.dims:=by
 unfold entryE at h
 split at h
 ·simp at h
 ·split at h
  ·simp at h
  ·split at h
   ·simp at h
   ·rename_i h3
    simp only [not_or,validV_B,Bool.not_eq_false] at h3
    exact ⟨h3.1,by simpa using h3.2⟩
theorem wrongV_ok {s:PSchema} {pv:List (List Int)} (h:¬pv.any (wrongV s)=true):∀p∈pv,vecB p=true∧(p.length:Int)=s.dims:=by
 intro p hp
 rw [List.any_eq_true] at h
 have h1:¬wrongV s p=true:=fun e=>h ⟨p,hp,e⟩
 unfold wrongV at h1
 cases e:vecB p with
 |false=>rw [e] at h1;simp at h1
 |true=>rw [e] at h1;simpa using h1
theorem sumOK_of {s:PSchema} {pv:List (List Int)} {l:List PEntry} (hc:checkE s=0) (h8:¬8 < pv.length) (hw:¬pv.any (wrongV s)=true) (he:∀e∈l,entryE s e=0):SumOK s pv l:=
 ⟨(checkE_met hc).1,by omega,wrongV_ok hw,fun e h=>entryE_vec (he e h)⟩
theorem zOf_ref (s:PSchema) (pv:List (List Int)) (l:List PEntry):zOf s pv l=refOf s pv l:=by
 unfold zOf refOf
 by_cases h1:checkE s≠0∨8 < pv.length∨pv.any (wrongV s)=true
 ·rw [if_pos h1,if_pos h1]
 ·rw [if_neg h1,if_neg h1]
  simp only [not_or,Classical.not_not] at h1
  obtain ⟨hc,h8,hw⟩:=h1
  have e:(l.any fun e=>decide (entryA s e≠0))=(l.any fun e=>decide (entryE s e≠0)):=by
   congr 1;funext e;rw [entryA_E hc]
  rw [e]
  by_cases h2:(l.any fun e=>decide (entryE s e≠0))=true∨l.length=0
  ·rw [if_pos h2,if_pos h2.symm]
  ·rw [if_neg h2,if_neg fun h=>h2 h.symm]
   by_cases h3:4096 < l.length
   ·rw [if_pos h3,if_pos h3]
   ·rw [if_neg h3,if_neg h3]
    simp only [not_or] at h2
    have he:∀e∈l,entryE s e=0:=fun e h=>by
     by_cases q:entryE s e=0
     ·exact q
     ·exact absurd (List.any_eq_true.2 ⟨e,h,by simpa using q⟩) h2.1
    rw [refL_of l (by omega) (sumOK_of hc h8 hw he) (by omega)]
end Go.Proofs.YtoamkpgaaanafaaGreat
