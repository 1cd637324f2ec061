/- Out of: Vh, Qh, Ud, Row18. -/
import Derived.Test.YtoamkpgaaanafaaGreatK1
import Derived.Test.YtoamkpgaaanafaaGreatK2
import Derived.Test.YtoamkpgaaanafaaGreatK4
import Derived.Test.YtoamkpgaaanafaaGreatK5
import Derived.Test.YtoamkpgaaanafaaGreatK6
import Derived.Test.YtoamkpgaaanafaaGreatK8
import Derived.Test.YtoamkpgaaanafaaGreatK9
import Derived.Test.YtoamkpgaaanafaaGreatK10
import Derived.Test.YtoamkpgaaanafaaGreatK11
import Derived.Test.YtoamkpgaaanafaaGreatK12
import Derived.Test.YtoamkpgaaanafaaGreatK13
import Derived.Test.YtoamkpgaaanafaaGreatK14
import Derived.Test.YtoamkpgaaanafaaGreatK15
import Derived.Test.YtoamkpgaaanafaaGreatK17
import Derived.Test.YtoamkpgaaanafaaGreatK18
import Derived.Test.YtoamkpgaaanafaaGreatK19
import Derived.Test.YtoamkpgaaanafaaGreatK22
import Derived.Test.YtoamkpgaaanafaaGreatK24
import Derived.Test.YtoamkpgaaanafaaGreatK25
import Derived.Test.YtoamkpgaaanafaaGreatK26
namespace Go.Proofs.YtoamkpgaaanafaaGreat
set_option linter.unusedSimpArgs false
set_option linter.unusedVariables false
set_option linter.unnecessarySimpa false
section
open Go.RowKit
set_option maxRecDepth 10000 in
set_option maxHeartbeats 4000000 in
theorem pw_rEncode (z:PSum) (hz:EncOK z):PCalls Tryz.prog 49 [psum z] (· = pbytesO (encZ z)):=by
 have hlz:=low_psumL z
 have hlz1:Low (.ep (psumL z) 0):=.ep _ _ hlz
 obtain ⟨b1,b2⟩:=encZ_bound hz
 have hnf:=numsZ_fit hz
 have hnl:=numsZ_len z
 have hz2:=hz
 obtain ⟨-,-,-,-,-,n1,n2,n3,n4,n5,hw⟩:=hz2
 have hlsh:Low (pshells z.shells):=(low_pshells _).2 trivial
 have hlfl:Low (pflds z.fields):=(low_pflds _).2 trivial
 refine pcalls_of_pw typeTab_ok Tryz.func49 rfl (by kernel_rfl) (by simp [low_psum]) (by simp [psum,psumL,PV.ownB]) (by rw [Tryz.ntmps49];simp) ?_
 rw [Tryz.ntmps49,Tryz.results49]
 refine PW.seq ?_
 refine PW.region typeTab_ok (by kernel_rfl) ?_
 refine wg ?_
 refine PW.freezeP (id:=0) (s:=1) (off:=0) (σ':=bot) rfl rfl hlz (by exact sbr0) rfl ?_
 refine wk ?_
 refine PW.loop (fun k:Nat=>(bot.put 1 (.ep (psumL z) 0) |>.put 3 (.sl (9+z.box.lo.length+z.box.hi.length+2 * k) 1 ((boxN z ++ (z.shells.length:Int) :: shN (z.shells.take k)).map pint) (some 3)) |>.put 4 (pint k))) (fun k=>k≤z.shells.length) (fun k=>z.shells.length - k) 0 (by omega) ?_ ?_
 ·(refine Sub.same ?_;(repeat (first|exact SubR.bot|((with_reducible refine SubR.isp ?_);refine SubR.put ?_ (by exact rq0))|((with_reducible refine SubR.isb ?_);refine SubR.setb ?_ rfl rfl (by exact rl0))|((with_reducible refine SubR.ism ?_);refine SubR.setm ?_ rfl rfl (by (first|exact ⟨rfl,rfl,rfl,rfl,rfl⟩|exact RenM.low (by first|assumption|exact hlowm _|exact hlowm _ _))))|refine SubR.put ?_ (.inl (ren_eqlow (sl_eq ?_ ?_) (by exact lw))))))
  ·omega
  ·simp [shN,boxN,headZ,pint]
 intro k hk
 by_cases hlt:k < z.shells.length
 ·have hlsk:=low_pshL (z.shells.getD k default)
  refine wk ?_
  refine loopP (k+1) (by omega) (by omega) ?_
  (refine Sub.same ?_;(repeat (first|exact SubR.bot|((with_reducible refine SubR.isp ?_);refine SubR.put ?_ (by exact rq0))|((with_reducible refine SubR.isb ?_);refine SubR.setb ?_ rfl rfl (by exact rl0))|((with_reducible refine SubR.ism ?_);refine SubR.setm ?_ rfl rfl (by (first|exact ⟨rfl,rfl,rfl,rfl,rfl⟩|exact RenM.low (by first|assumption|exact hlowm _|exact hlowm _ _))))|refine SubR.put ?_ (.inl (ren_eqlow (sl_eq ?_ ?_) (by exact lw))))))
  ·omega
  ·rw [shN_take hlt];simp [pint]
 have e:z.shells.take k=z.shells:=List.take_of_length_le (by omega)
 simp only [e]
 refine wk ?_
 refine PW.loop (fun j:Nat=>(bot.put 1 (.ep (psumL z) 0) |>.put 3 (.sl (10+z.box.lo.length+z.box.hi.length+2 * k+4 * j) 1 ((boxN z ++ (z.shells.length:Int) :: shN z.shells ++ (z.fields.length:Int) :: flN (z.fields.take j)).map pint) (some 3)) |>.put 5 (.sl (flW (z.fields.take j)).length 1 ((flW (z.fields.take j)).map pstr) (some 9)) |>.put 6 (pint j))) (fun j=>j≤z.fields.length) (fun j=>z.fields.length - j) 0 (by omega) ?_ ?_
 ·(refine Sub.same ?_;(repeat (first|exact SubR.bot|((with_reducible refine SubR.isp ?_);refine SubR.put ?_ (by exact rq0))|((with_reducible refine SubR.isb ?_);refine SubR.setb ?_ rfl rfl (by exact rl0))|((with_reducible refine SubR.ism ?_);refine SubR.setm ?_ rfl rfl (by (first|exact ⟨rfl,rfl,rfl,rfl,rfl⟩|exact RenM.low (by first|assumption|exact hlowm _|exact hlowm _ _))))|refine SubR.put ?_ (.inl (ren_eqlow (sl_eq ?_ ?_) (by exact lw))))))
  all_goals first|omega|(simp [flN,pint];done)
 intro j hj
 by_cases hlj:j < z.fields.length
 ·have hlfk:=low_pfldL (z.fields.getD j default)
  have w1:=flW_le z.fields j
  have w2:=flW_word z.fields hlj
  refine wk ?_
  refine loopP (j+1) (by omega) (by omega) ?_
  (refine Sub.same ?_;(repeat (first|exact SubR.bot|((with_reducible refine SubR.isp ?_);refine SubR.put ?_ (by exact rq0))|((with_reducible refine SubR.isb ?_);refine SubR.setb ?_ rfl rfl (by exact rl0))|((with_reducible refine SubR.ism ?_);refine SubR.setm ?_ rfl rfl (by (first|exact ⟨rfl,rfl,rfl,rfl,rfl⟩|exact RenM.low (by first|assumption|exact hlowm _|exact hlowm _ _))))|refine SubR.put ?_ (.inl (ren_eqlow (sl_eq ?_ ?_) (by exact lw))))))
  ·omega
  ·rw [flN_take hlj];simp [pint]
  ·rw [flW_take hlj];simp
  ·rw [flW_take hlj];simp
 have ej:z.fields.take j=z.fields:=List.take_of_length_le (by omega)
 simp only [ej]
 have hc1:=pcRefInts (numsZ z) hnf (by omega)
 have hc2:=pcRefStrings (flW z.fields) hw (by omega)
 have e1:PV.sl (10+z.box.lo.length+z.box.hi.length+2 * k+4 * j) 1 ((boxN z ++ (z.shells.length:Int) :: shN z.shells ++ (z.fields.length:Int) :: flN z.fields).map pint) none=pints (numsZ z):=sl_eq (by rw [hnl];omega) rfl
 refine wk ?_
 refine PWops.call rfl rfl rfl (by first|(rw [e1];exact hc1)|exact hc1) ?_
 refine wk ?_
 refine retP rfl (.sl _ _ _ _ (fun c hc=>by simp at hc;rcases hc with ⟨z,-,rfl⟩|⟨z,-,rfl⟩<;>exact .val _)) ?_
 exact sl_eq (by simp [encZ]) (by simp [encZ])
set_option maxRecDepth 10000 in
set_option maxHeartbeats 1000000 in
theorem pw_rSame (x y:PSum) (hx:EncOK x) (hy:EncOK y):PCalls Tryz.prog 17 [psum x,psum y] (· = pbool ((strI (encZ x)).toList == (strI (encZ y)).toList)):=by
 have c1:=pw_rEncode x hx
 have c2:=pw_rEncode y hy
 have hlx:=low_psumL x
 have hly:=low_psumL y
 refine pcalls_of_pw typeTab_ok Tryz.func17 rfl (by kernel_rfl) (by simp [low_psum]) (by simp [psum,psumL,PV.ownB]) (by rw [Tryz.ntmps17];simp) ?_
 rw [Tryz.ntmps17,Tryz.results17]
 generalize encZ x=l1 at *
 generalize encZ y=l2 at *
 cases e:((strI l1).toList == (strI l2).toList) <;>
 ·refine wk ?_
  exact retP rfl (by exact lw) rfl
def fewZ (z:PSum):Bool:=decide (z.box.lo.length≤40) && (decide (z.box.hi.length≤40) && (decide (z.shells.length≤20) && (decide (z.fields.length≤20) && z.fields.all fun f=>decide (f.words.length≤60) && f.words.all fun w=>decide (w.size≤100))))
set_option maxRecDepth 10000 in
set_option maxHeartbeats 2000000 in
theorem pw_rFew (z:PSum) (h1:z.box.lo.length≤20000000000000) (h2:z.box.hi.length≤20000000000000) (h3:z.shells.length≤20000000000000) (h4:z.fields.length≤20000000000000) (h5:∀f∈z.fields,f.words.length≤20000000000000):PCalls Tryz.prog 13 [psum z] (· = pbool (fewZ z)):=by
 have hlz:=low_psumL z
 have g:∀w,fewZ z=w→pbool w=pbool (fewZ z):=fun v h=>by rw [h]
 refine pcalls_of_pw typeTab_ok Tryz.func13 rfl (by kernel_rfl) (by simp [low_pint,low_pints,low_pstr,low_pbool,low_pbox,low_pvecs,low_pentry,low_pentries,low_psum,low_pschema,low_pshells,low_pstrs,low_pfld,low_pdef]) (by simp [pint,pints,pstr,pbool,pbox,pvecs,pentry,pentries,psum,psumL,pschema,pshells,pstrs,pfld,pfldL,pdefL,PV.ownB]) (by rw [Tryz.ntmps13];simp) ?_
 rw [Tryz.ntmps13,Tryz.results13]
 by_cases e1:z.box.lo.length≤40
 rotate_left
 ·unfold psum psumL at *
  refine wk ?_
  exact retP rfl (by exact lw) (g _ (by simp only [fewZ,decide_eq_false e1,Bool.false_and]))
 by_cases e2:z.box.hi.length≤40
 rotate_left
 ·unfold psum psumL at *
  refine wk ?_
  exact retP rfl (by exact lw) (g _ (by simp only [fewZ,decide_eq_false e2,Bool.false_and,Bool.and_false]))
 by_cases e3:z.shells.length≤20
 rotate_left
 ·unfold psum psumL at *
  refine wk ?_
  exact retP rfl (by exact lw) (g _ (by simp only [fewZ,decide_eq_false e3,Bool.false_and,Bool.and_false]))
 by_cases e4:z.fields.length≤20
 rotate_left
 ·unfold psum psumL at *
  refine wk ?_
  exact retP rfl (by exact lw) (g _ (by simp only [fewZ,decide_eq_false e4,Bool.false_and,Bool.and_false]))
 refine wk ?_
 refine PW.loop (fun k:Nat=>(bot.setb 0 (psumL z) |>.put 1 (.ptr 0 0) |>.put 3 (pint k))) (fun k=>k≤z.fields.length∧∀j,j < k→((z.fields.getD j default).words.length≤60∧∀w∈(z.fields.getD j default).words,w.size≤100)) (fun k=>z.fields.length - k) 0 ⟨by omega,by simp⟩ ?_ ?_
 ·exact sb
 rintro k ⟨hk,ha⟩
 by_cases hlt:k < z.fields.length
 ·have hw:=h5 _ (getD_mem hlt)
  have hbad:¬((z.fields.getD k default).words.length≤60∧∀w∈(z.fields.getD k default).words,w.size≤100)→fewZ z=false:=fun h=>by
   have:(z.fields.all fun f=>decide (f.words.length≤60) && f.words.all fun w=>decide (w.size≤100))=false:=by
    rw [List.all_eq_false]
    refine ⟨_,getD_mem hlt,fun h2=>h ?_⟩
    simpa only [Bool.and_eq_true,decide_eq_true_eq,List.all_eq_true] using h2
   simp only [fewZ,this,Bool.and_false]
  by_cases e5:(z.fields.getD k default).words.length≤60
  rotate_left
  ·refine wk ?_
   exact retP rfl (by exact lw) (g _ (hbad fun h=>e5 h.1))
  refine wk ?_
  refine PW.loop (fun j:Nat=>(bot.setb 0 (psumL z) |>.put 1 (.ptr 0 0) |>.put 3 (pint k) |>.put 4 (pint j))) (fun j=>j≤(z.fields.getD k default).words.length∧∀i,i < j→((z.fields.getD k default).words.getD i default).size≤100) (fun j=>(z.fields.getD k default).words.length - j) 0 ⟨by omega,by simp⟩ ?_ ?_
  ·exact sb
  rintro j ⟨hj,hb⟩
  by_cases hlj:j < (z.fields.getD k default).words.length
  ·by_cases e6:((z.fields.getD k default).words.getD j default).size≤100
   ·refine wk ?_
    refine loopP (j+1) ⟨by omega,fun i hi=>?_⟩ (by omega) ?_
    ·rcases Nat.lt_succ_iff_lt_or_eq.1 hi with h|h
     ·exact hb i h
     ·rw [h];exact e6
    ·exact sb
   ·refine wk ?_
    exact retP rfl (by exact lw) (g _ (hbad fun h=>e6 (h.2 _ (getD_mem hlj))))
  ·refine wk ?_
   refine loopP (k+1) ⟨by omega,fun i hi=>?_⟩ (by omega) ?_
   ·rcases Nat.lt_succ_iff_lt_or_eq.1 hi with h|h
    ·exact ha i h
    ·rw [h]
     refine ⟨e5,fun w hw=>?_⟩
     obtain ⟨q,hq,rfl⟩:=List.getElem_of_mem hw
     have:=hb q (by omega)
     rwa [getD_atW hq] at this
   ·exact sb
 ·have hall:(z.fields.all fun f=>decide (f.words.length≤60) && f.words.all fun w=>decide (w.size≤100))=true:=by
   rw [List.all_eq_true]
   intro f hf
   obtain ⟨q,hq,rfl⟩:=List.getElem_of_mem hf
   have:=ha q (by omega)
   rw [getD_atW hq] at this
   simpa only [Bool.and_eq_true,decide_eq_true_eq,List.all_eq_true] using this
  refine wk ?_
  exact retP rfl (by exact lw) (g _ (by rw [fewZ,hall,decide_eq_true e1,decide_eq_true e2,decide_eq_true e3,decide_eq_true e4];rfl))
mutual
/-- Conditions that can be weighed. -/
def okP (s:PSchema):PPred→Prop
 | .mk op nm n m w subs=>(1≤op∧op≤7)∧(op=4→0 < subs.length)∧(5≤op→0≤findI s.defs nm)∧subs.length≤1000000∧okL s subs
def okL (s:PSchema):List PPred→Prop
 | []=>True
 |p :: l=>okP s p∧okL s l
end
def SmallW (s:PSchema) (z:PSum):Prop:=s.defs.length≤1000∧s.defs.length≤z.fields.length∧z.fields.length≤1000000∧∀k,(z.fields.getD k default).words.length≤1000000
end
section
open Go.RowKit
variable (s:PSchema) (z:PSum)
set_option maxRecDepth 10000 in
set_option maxHeartbeats 4000000 in
theorem hc_weigh0 (p:PPred) (t:PTruth) (h:(p.op=1∧WCalls s z 164 [.ptr 1000001 0,ppred p] (ptruth t))∨(p.op=2∧WCalls s z 165 [.ptr 1000001 0,ppred p,fNever,fNo] (ptruth t))∨(p.op=3∧WCalls s z 168 [.ptr 1000001 0,ppred p,fYes,fAlways] (ptruth t))∨(p.op=4∧WCalls s z 169 [.ptr 1000001 0,ppred p] (ptruth t))∨(p.op=5∧WCalls s z 170 [.ptr 1000001 0,ppred p] (ptruth t))∨(p.op=6∧WCalls s z 172 [.ptr 1000001 0,ppred p] (ptruth t))∨(p.op=7∧WCalls s z 173 [.ptr 1000001 0,ppred p] (ptruth t))) :
  WCalls s z 85 [.ptr 1000001 0,ppred p] (ptruth t):=by
 have hps:Low (ppreds p.subs):=(low_ppreds _).2 trivial
 unfold WCalls at *
 refine hcalls_of_pw typeTab_ok Tryz.func85 rfl (by kernel_rfl) (by simp [ppred,PV.ownB]) (by rw [Tryz.ntmps85];simp) (by simp [ResIds,wG,wMs]) (by simp [ResIds,wG,wMs]) (w_ok s z (w_args s z p) (low_ptruth _)) ?_ (w_givB s z) w_givM
 rw [Tryz.ntmps85,Tryz.results85]
 unfold ppred at *
 rcases h with ⟨ho,h⟩|⟨ho,h⟩|⟨ho,h⟩|⟨ho,h⟩|⟨ho,h⟩|⟨ho,h⟩|⟨ho,h⟩
 all_goals
  rw [prL_eq,ho] at h ⊢
  refine wk ?_
  exact w_ret (r:=ptruth t) rfl rfl rfl
end
section
open Go.RowKit
variable {s:PSchema} {z:PSum}
mutual
theorem hc_weigh (hs:SmallW s z):∀p:PPred,okP s p→WCalls s z 85 [.ptr 1000001 0,ppred p] (ptruth (canZ s z p))
 | .mk op nm n m w subs,h=>by
  rw [okP] at h
  obtain ⟨h1,h2,h3,h4,h5⟩:=h
  have hL:=hc_weighL hs subs h5
  have ha:=hc_all s z (.mk op nm n m w subs) h4 hL
  have hfld:5≤op→WCalls s z 171 [.ptr 1000001 0,pstr nm] (pfld (fieldAt s z nm)):=fun h=>by
   have hf:=h3 h
   obtain ⟨d,hd⟩:=findI_get hf
   have hlt:=(List.getElem?_eq_some_iff.1 hd).1
   exact hc_field s z nm hf (by have:=hs.2.1;omega) hs.1 hs.2.2.1
  refine hc_weigh0 s z _ _ ?_
  rw [canZ]
  rcases (show op=1∨op=2∨op=3∨op=4∨op=5∨op=6∨op=7 by omega) with rfl|rfl|rfl|rfl|rfl|rfl|rfl
  ·refine .inl ⟨rfl,?_⟩
   rw [if_pos rfl]
   exact hc_w5 s z _
  ·refine .inr (.inl ⟨rfl,?_⟩)
   rw [if_neg (by decide),if_pos rfl,canL_eq]
   exact hc_w6 s z _ h4 ha
  ·refine .inr (.inr (.inl ⟨rfl,?_⟩))
   rw [if_neg (by decide),if_neg (by decide),if_pos rfl,canL_eq]
   exact hc_w7 s z _ h4 ha
  ·refine .inr (.inr (.inr (.inl ⟨rfl,?_⟩)))
   have h0:=h2 rfl
   rw [if_neg (by decide),if_neg (by decide),if_neg (by decide),if_pos rfl,canL_eq]
   have e:(subs.map (canZ s z)).getD 0 default=canZ s z (subs.getD 0 default):=by
    simp [List.getD_eq_getElem?_getD,h0]
   rw [e]
   exact hc_w8 s z (.mk 4 nm n m w subs) h4 h0 (hL 0 h0)
  ·refine .inr (.inr (.inr (.inr (.inl ⟨rfl,?_⟩))))
   rw [if_neg (by decide),if_neg (by decide),if_neg (by decide),if_neg (by decide),if_pos rfl]
   exact hc_w9 s z (.mk 5 nm n m w subs) (hfld (by decide))
  ·refine .inr (.inr (.inr (.inr (.inr (.inl ⟨rfl,?_⟩)))))
   rw [if_neg (by decide),if_neg (by decide),if_neg (by decide),if_neg (by decide),if_neg (by decide),if_pos rfl,←mxI_eq,←mnI_eq]
   exact hc_w10 s z (.mk 6 nm n m w subs) (hfld (by decide))
  ·refine .inr (.inr (.inr (.inr (.inr (.inr ⟨rfl,?_⟩)))))
   rw [if_neg (by decide),if_neg (by decide),if_neg (by decide),if_neg (by decide),if_neg (by decide),if_neg (by decide)]
   exact hc_w11 s z (.mk 7 nm n m w subs) (hs.2.2.2 _) (hfld (by decide))
theorem hc_weighL (hs:SmallW s z):∀l:List PPred,okL s l→∀k,k < l.length→WCalls s z 85 [.ptr 1000001 0,ppred (l.getD k default)] (ptruth (canZ s z (l.getD k default)))
 | [],_,k,hk=>by simp at hk
 |p :: l,h,k,hk=>by
  rw [okL] at h
  cases k with
  |zero=>exact hc_weigh hs p h.1
  |succ k=>
   have:=hc_weighL hs l h.2 k (by simpa using hk)
   simpa using this
end
end
section
open Go.RowKit
theorem hc_weighA {s:PSchema} {z:PSum} (hs:SmallW s z) (p:PPred) (hp:okP s p) (w m:Nat) (hwm:w≠m):HCalls Tryz.prog 85 [.ptr w 0,ppred p] (wG s z w m) (wMs m) (ptruth (canZ s z p)) (wG s z w m) (wMs m):=by
 have l1:=low_ppred p
 have m1:∀{S:Nat→Prop},S 1000002→RenB (renN [(1000001,w),(1000002,m)]) S (wG s z 1000001 1000002) (wG s z w m):=by
  intro S hS
  refine RenB.cons _ _ _ _ _ ?_ RenB.nil
  unfold wC
  refine RenL.cons (Ren.low _ (.val _)) (RenL.cons (Ren.low _ (.val _)) (RenL.cons (Ren.low _ ((low_pdefs _).2 trivial)) (RenL.cons (Ren.low _ (.val _)) (RenL.cons (Ren.low _ ((low_pints _).2 trivial)) (RenL.cons (Ren.low _ ((low_pints _).2 trivial)) (RenL.cons (Ren.low _ ((low_pshells _).2 trivial)) (RenL.cons (Ren.low _ (.val _)) (RenL.cons (Ren.low _ (.val _)) (RenL.cons (Ren.low _ (.val _)) (RenL.cons (Ren.low _ (.val _)) (RenL.cons (Ren.low _ (.val _)) (RenL.cons (Ren.low _ ((low_pflds _).2 trivial)) (RenL.cons ?_ RenL.nil)))))))))))))
  exact Ren.mref _ hS
 have m2:∀{S:Nat→Prop},RenMs (renN [(1000001,w),(1000002,m)]) S (wMs 1000002) (wMs m):=RenMs.cons _ _ _ _ _ (RenM.low low_ways) RenMs.nil
 refine HCalls.at (hc_weigh hs p hp) [(1000001,w),(1000002,m)] (by simpa using hwm) (by simp [ResIds,wG,wMs]) (by simp [wG]) (by simp [wMs]) ?_ (m1 (by simp [ResIds,wG,wMs])) m2 (Ren.low _ (low_ptruth _)) (m1 (by simp [ResIds,wG,wMs])) m2
 exact RenL.cons (Ren.ptr _ _ (by simp [ResIds,wG,wMs])) (RenL.cons (Ren.low _ (l1.2 trivial)) RenL.nil)
set_option maxRecDepth 10000 in
set_option maxHeartbeats 2000000 in
theorem pw_can {s:PSchema} {z:PSum} (hs:SmallW s z) (p:PPred) (hp:okP s p):PCalls Tryz.prog 31 [pschema s,psum z,ppred p] (· = .tup [pbool (canZ s z p).yes,pbool (canZ s z p).no]):=by
 have h1:=hc_ways 900001
 have h2:=hc_weighA hs p hp 1004 900001 (by decide)
 have hls:=low_schCells s
 have hlz:=low_psumL z
 have hlp:=low_prL p
 refine pcalls_of_pw typeTab_ok Tryz.func31 rfl (by kernel_rfl) (by simp [low_pschema,low_psum,low_ppred]) (by simp [pschema,psum,ppred,PV.ownB]) (by rw [Tryz.ntmps31];simp) ?_
 rw [Tryz.ntmps31,Tryz.results31]
 generalize canZ s z p=t at *
 refine PW.seq ?_
 refine PW.region typeTab_ok (by kernel_rfl) ?_
 refine wg ?_
 refine PW.drawF (fun i id=>Nat.beq i 2 && Nat.ble id 2) typeTab_ok (by kernel_rfl) (by kernel_rfl) (by kernel_rfl) ?_
 refine wk ?_
 exact retP (r:=.tup [pbool t.yes,pbool t.no]) rfl (by simp [low_tup,low_pbool]) rfl
theorem fewZ_get {z:PSum} (h:fewZ z=true):z.box.lo.length≤40∧z.box.hi.length≤40∧z.shells.length≤20∧z.fields.length≤20∧∀f∈z.fields,f.words.length≤60∧∀w∈f.words,w.size≤100:=by
 simpa only [fewZ,Bool.and_eq_true,decide_eq_true_eq,List.all_eq_true] using h
structure NumZ (z:PSum):Prop where
 head:Fit (headZ z)
 lo:Fit z.box.lo
 hi:Fit z.box.hi
 shells:∀s∈z.shells,Fit64 s.lo∧Fit64 s.hi
 fields:∀f∈z.fields,(Fit64 f.has∧Fit64 f.lo∧Fit64 f.hi)∧f.words.length≤1000∧∀w∈f.words,w.size≤1000
 n1:z.box.lo.length≤1000
 n2:z.box.hi.length≤1000
 n3:z.shells.length≤1000
 n4:z.fields.length≤100
theorem flW_bound:∀{l:List PField},(∀f∈l,f.words.length≤1000)→(flW l).length≤1000 * l.length
 | [],_=>by simp [flW]
 |a :: r,h=>by
  have h1:=h a (by simp)
  have h2:=flW_bound (l:=r) fun f hf=>h f (by simp [hf])
  simp only [flW,List.flatMap_cons,List.length_append,List.length_cons] at *
  omega
theorem NumZ.enc {z:PSum} (h:NumZ z):EncOK z:=by
 obtain ⟨h1,h2,h3,h4,h5,n1,n2,n3,n4⟩:=h
 refine ⟨h1,h2,h3,h4,fun f hf=>(h5 f hf).1,by omega,by omega,by omega,by omega,?_,fun w hw=>?_⟩
 ·have:=flW_bound fun f hf=>(h5 f hf).2.1
  omega
 ·obtain ⟨f,hf,hw2⟩:=List.mem_flatMap.1 hw
  have:=(h5 f hf).2.2 w hw2
  omega
theorem zero_enc:NumZ zeroZ:=by
 refine ⟨?_,?_,?_,?_,?_,by decide,by decide,by decide,by decide⟩
 ·intro x hx
  simp only [headZ,zeroZ,List.mem_cons,List.not_mem_nil,or_false] at hx
  omega
 all_goals
  intro x hx
  simp [zeroZ] at hx
end
section
open Go.ChangeShapes Go.WideShapes Go.ChangeAt Go.RowKit
theorem opensShell:Opens Tryz.prog 119 pshL (fun s=>Fit64 s.lo∧Fit64 s.hi):=
 (opens_struct Tryz.underlying119 (opensFs_1 rfl opensInt (by kernel_rfl) (opensFs_1 rfl opensInt (by kernel_rfl) opensFs_nil)) (by kernel_rfl)).map
  (fun p=>(⟨p.1,p.2.1⟩:PShell)) (fun _ _=>rfl) (fun _ h=>⟨h.1,h.2.1⟩)
theorem opensShells:Opens Tryz.prog 30 (fun l => [pshells l]) (fun l=>(∀s∈l,Fit64 s.lo∧Fit64 s.hi)∧l.length * 16≤reachBytes):=
 (opens_slice Tryz.underlying30 (by kernel_rfl) (by decide) (by kernel_rfl) opensShell (fun _ _=>rfl)).map id (fun a _=>rfl) (fun _ h=>h)
theorem opensField:Opens Tryz.prog 100 pfldL (fun f=>(Fit64 f.has∧Fit64 f.lo∧Fit64 f.hi)∧f.words.length * 16≤reachBytes):=
 (opens_struct Tryz.underlying100 (opensFs_1 rfl opensInt (by kernel_rfl) (opensFs_1 rfl opensInt (by kernel_rfl) (opensFs_1 rfl opensInt (by kernel_rfl) (opensFs_1 rfl opensStrs (by kernel_rfl) opensFs_nil)))) (by kernel_rfl)).map
  (fun p=>(⟨p.1,p.2.1,p.2.2.1,p.2.2.2.1⟩:PField)) (fun _ _=>rfl) (fun _ h=>by obtain ⟨a,b,c,d,-⟩:=h;exact ⟨⟨a,b,c⟩,d.2⟩)
theorem opensFields:Opens Tryz.prog 31 (fun l => [pflds l]) (fun l=>(∀f∈l,(Fit64 f.has∧Fit64 f.lo∧Fit64 f.hi)∧f.words.length * 16≤reachBytes)∧l.length * 48≤reachBytes):=
 (opens_slice Tryz.underlying31 (by kernel_rfl) (by decide) (by kernel_rfl) opensField (fun _ _=>rfl)).map id (fun a _=>rfl) (fun _ h=>h)
theorem opensBox:Opens Tryz.prog 29 pboxL (fun b=>((∀z∈b.lo,Fit64 z)∧b.lo.length * 8≤reachBytes)∧(∀z∈b.hi,Fit64 z)∧b.hi.length * 8≤reachBytes):=
 (opens_struct Tryz.underlying29 (opensFs_1 rfl opensInts (by kernel_rfl) (opensFs_1 rfl opensInts (by kernel_rfl) opensFs_nil)) (by kernel_rfl)).map
  (fun p=>(⟨p.1,p.2.1⟩:PBox)) (fun _ _=>rfl) (fun _ h=>⟨h.1,h.2.1⟩)
structure GoodZ (z:PSum):Prop where
 head:Fit64 z.count∧Fit64 z.fromLo∧Fit64 z.fromHi∧Fit64 z.toHi∧Fit64 z.bornLo∧Fit64 z.bornHi
 lo:(∀x∈z.box.lo,Fit64 x)∧z.box.lo.length * 8≤reachBytes
 hi:(∀x∈z.box.hi,Fit64 x)∧z.box.hi.length * 8≤reachBytes
 shells:(∀s∈z.shells,Fit64 s.lo∧Fit64 s.hi)∧z.shells.length * 16≤reachBytes
 fields:(∀f∈z.fields,(Fit64 f.has∧Fit64 f.lo∧Fit64 f.hi)∧f.words.length * 16≤reachBytes)∧z.fields.length * 48≤reachBytes
theorem argSum:ArgOpens Tryz.prog 33 psum GoodZ:=
 (arg_struct Tryz.underlying33 (opens_struct Tryz.underlying33 (opensFs_1 rfl opensInt (by kernel_rfl) (opensFs_cons (k:=2) rfl (by kernel_rfl) opensBox (opensFs_1 rfl opensShells (by kernel_rfl) (opensFs_1 rfl opensInt (by kernel_rfl) (opensFs_1 rfl opensInt (by kernel_rfl) (opensFs_1 rfl opensInt (by kernel_rfl) (opensFs_1 rfl opensInt (by kernel_rfl) (opensFs_1 rfl opensInt (by kernel_rfl) (opensFs_1 rfl opensFields (by kernel_rfl) opensFs_nil))))))))) (by kernel_rfl))).map
  (fun p=>(⟨p.1,p.2.1,p.2.2.1,p.2.2.2.1,p.2.2.2.2.1,p.2.2.2.2.2.1,p.2.2.2.2.2.2.1,p.2.2.2.2.2.2.2.1,p.2.2.2.2.2.2.2.2.1⟩:PSum)) (fun _ _=>rfl) (fun _ h=>by
   obtain ⟨h1,h2,h3,h4,h5,h6,h7,h8,h9,_⟩:=h
   exact ⟨⟨h1,h4,h5,h6,h7,h8⟩,h2.1,h2.2,h3,h9⟩)
theorem GoodZ.num {z:PSum} (h:GoodZ z) (hf:fewZ z=true):NumZ z:=by
 obtain ⟨f1,f2,f3,f4,f5⟩:=fewZ_get hf
 obtain ⟨⟨a1,a2,a3,a4,a5,a6⟩,l1,l2,l3,l4⟩:=h
 refine ⟨?_,l1.1,l2.1,l3.1,fun f hf=>⟨(l4.1 f hf).1,by have:=(f5 f hf).1;omega,fun w hw=>by have:=(f5 f hf).2 w hw;omega⟩,by omega,by omega,by omega,by omega⟩
 intro x hx
 simp only [headZ,List.mem_cons,List.not_mem_nil,or_false] at hx
 rcases hx with rfl|rfl|rfl|rfl|rfl|rfl<;>assumption
theorem GoodZ.big {z:PSum} (h:GoodZ z):z.box.lo.length≤20000000000000∧z.box.hi.length≤20000000000000∧z.shells.length≤20000000000000∧z.fields.length≤20000000000000∧∀f∈z.fields,f.words.length≤20000000000000:=by
 have e:=reach_eq
 obtain ⟨-,l1,l2,l3,l4⟩:=h
 have q1:=l1.2
 have q2:=l2.2
 have q3:=l3.2
 have q4:=l4.2
 exact ⟨by omega,by omega,by omega,by omega,fun f hf=>by have:=(l4.1 f hf).2;omega⟩
theorem GoodS.big {s:PSchema} (h:GoodS s):s.defs.length≤20000000000000∧∀d∈s.defs,d.words.length≤20000000000000:=by
 have e:=reach_eq
 have q:=h.len
 exact ⟨by omega,fun d hd=>by have:=(h.defs d hd).2.2.2;omega⟩
end
end Go.Proofs.YtoamkpgaaanafaaGreat
