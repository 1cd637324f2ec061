/- Out of: Vh. -/
import Derived.Test.YtoamkpgaaanafaaGreatM37
namespace Go.Proofs.YtoamkpgaaanafaaGreat
set_option linter.unusedSimpArgs false
set_option linter.unusedVariables false
set_option linter.unnecessarySimpa false
section
open Go.RowKit
set_option maxRecDepth 10000 in
set_option maxHeartbeats 4000000 in
theorem pw_rEncode (z:PSum) (hz:EncOK z):PCalls Tryz.prog 49 [psum z] (· = pbytesO (encZ z)):=by
 have hlz:=low_psumL z
 have hlz1:Low (.ep (psumL z) 0):=.ep _ _ hlz
 obtain ⟨b1,b2⟩:=encZ_bound hz
 have hnf:=numsZ_fit hz
 have hnl:=numsZ_len z
 have hz2:=hz
 obtain ⟨-,-,-,-,-,n1,n2,n3,n4,n5,hw⟩:=hz2
 have hlsh:Low (pshells z.shells):=(low_pshells _).2 trivial
 have hlfl:Low (pflds z.fields):=(low_pflds _).2 trivial
 refine pcalls_of_pw typeTab_ok Tryz.func49 rfl (by kernel_rfl) (by simp [low_psum]) (by simp [psum,psumL,PV.ownB]) (by rw [Tryz.ntmps49];simp) ?_
 rw [Tryz.ntmps49,Tryz.results49]
 refine PW.seq ?_
 refine PW.region typeTab_ok (by kernel_rfl) ?_
 refine wg ?_
 refine PW.freezeP (id:=0) (s:=1) (off:=0) (σ':=bot) rfl rfl hlz (by exact sbr0) rfl ?_
 refine wk ?_
 refine PW.loop (fun k:Nat=>(bot.put 1 (.ep (psumL z) 0) |>.put 3 (.sl (9+z.box.lo.length+z.box.hi.length+2 * k) 1 ((boxN z ++ (z.shells.length:Int) :: shN (z.shells.take k)).map pint) (some 3)) |>.put 4 (pint k))) (fun k=>k≤z.shells.length) (fun k=>z.shells.length - k) 0 (by omega) ?_ ?_
 ·(refine Sub.same ?_;(repeat (first|exact SubR.bot|((with_reducible refine SubR.isp ?_);refine SubR.put ?_ (by exact rq0))|((with_reducible refine SubR.isb ?_);refine SubR.setb ?_ rfl rfl (by exact rl0))|((with_reducible refine SubR.ism ?_);refine SubR.setm ?_ rfl rfl (by (first|exact ⟨rfl,rfl,rfl,rfl,rfl⟩|exact RenM.low (by first|assumption|exact hlowm _|exact hlowm _ _))))|refine SubR.put ?_ (.inl (ren_eqlow (sl_eq ?_ ?_) (by exact lw))))))
  ·omega
  ·simp [shN,boxN,headZ,pint]
 intro k hk
 by_cases hlt:k < z.shells.length
 ·have hlsk:=low_pshL (z.shells.getD k default)
  refine wk ?_
  refine loopP (k+1) (by omega) (by omega) ?_
  (refine Sub.same ?_;(repeat (first|exact SubR.bot|((with_reducible refine SubR.isp ?_);refine SubR.put ?_ (by exact rq0))|((with_reducible refine SubR.isb ?_);refine SubR.setb ?_ rfl rfl (by exact rl0))|((with_reducible refine SubR.ism ?_);refine SubR.setm ?_ rfl rfl (by (first|exact ⟨rfl,rfl,rfl,rfl,rfl⟩|exact RenM.low (by first|assumption|exact hlowm _|exact hlowm _ _))))|refine SubR.put ?_ (.inl (ren_eqlow (sl_eq ?_ ?_) (by exact lw))))))
  ·omega
  ·rw [shN_take hlt];simp [pint]
 have e:z.shells.take k=z.shells:=List.take_of_length_le (by omega)
 simp only [e]
 refine wk ?_
 refine PW.loop (fun j:Nat=>(bot.put 1 (.ep (psumL z) 0) |>.put 3 (.sl (10+z.box.lo.length+z.box.hi.length+2 * k+4 * j) 1 ((boxN z ++ (z.shells.length:Int) :: shN z.shells ++ (z.fields.length:Int) :: flN (z.fields.take j)).map pint) (some 3)) |>.put 5 (.sl (flW (z.fields.take j)).length 1 ((flW (z.fields.take j)).map pstr) (some 9)) |>.put 6 (pint j))) (fun j=>j≤z.fields.length) (fun j=>z.fields.length - j) 0 (by omega) ?_ ?_
 ·(refine Sub.same ?_;(repeat (first|exact SubR.bot|((with_reducible refine SubR.isp ?_);refine SubR.put ?_ (by exact rq0))|((with_reducible refine SubR.isb ?_);refine SubR.setb ?_ rfl rfl (by exact rl0))|((with_reducible refine SubR.ism ?_);refine SubR.setm ?_ rfl rfl (by (first|exact ⟨rfl,rfl,rfl,rfl,rfl⟩|exact RenM.low (by first|assumption|exact hlowm _|exact hlowm _ _))))|refine SubR.put ?_ (.inl (ren_eqlow (sl_eq ?_ ?_) (by exact lw))))))
  all_goals first|omega|(simp [flN,pint];done)
 intro j hj
 by_cases hlj:j < z.fields.length
 ·have hlfk:=low_pfldL (z.fields.getD j default)
  have w1:=flW_le z.fields j
  have w2:=flW_word z.fields hlj
  refine wk ?_
  refine loopP (j+1) (by omega) (by omega) ?_
  (refine Sub.same ?_;(repeat (first|exact SubR.bot|((with_reducible refine SubR.isp ?_);refine SubR.put ?_ (by exact rq0))|((with_reducible refine SubR.isb ?_);refine SubR.setb ?_ rfl rfl (by exact rl0))|((with_reducible refine SubR.ism ?_);refine SubR.setm ?_ rfl rfl (by (first|exact ⟨rfl,rfl,rfl,rfl,rfl⟩|exact RenM.low (by first|assumption|exact hlowm _|exact hlowm _ _))))|refine SubR.put ?_ (.inl (ren_eqlow (sl_eq ?_ ?_) (by exact lw))))))
  ·omega
  ·rw [flN_take hlj];simp [pint]
  ·rw [flW_take hlj];simp
  ·rw [flW_take hlj];simp
 have ej:z.fields.take j=z.fields:=List.take_of_length_le (by omega)
 simp only [ej]
 have hc1:=pcRefInts (numsZ z) hnf (by omega)
 have hc2:=pcRefStrings (flW z.fields) hw (by omega)
 have e1:PV.sl (10+z.box.lo.length+z.box.hi.length+2 * k+4 * j) 1 ((boxN z ++ (z.shells.length:Int) :: shN z.shells ++ (z.fields.length:Int) :: flN z.fields).map pint) none=pints (numsZ z):=sl_eq (by rw [hnl];omega) rfl
 refine wk ?_
 refine PWops.call rfl rfl rfl (by first|(rw [e1];exact hc1)|exact hc1) ?_
 refine wk ?_
 refine retP rfl (.sl _ _ _ _ (fun c hc=>by simp at hc;rcases hc with ⟨z,-,rfl⟩|⟨z,-,rfl⟩<;>exact .val _)) ?_
 exact sl_eq (by simp [encZ]) (by simp [encZ])
set_option maxRecDepth 10000 in
set_option maxHeartbeats 1000000 in
theorem pw_rSame (x y:PSum) (hx:EncOK x) (hy:EncOK y):PCalls Tryz.prog 17 [psum x,psum y] (· = pbool ((strI (encZ x)).toList == (strI (encZ y)).toList)):=by
 have c1:=pw_rEncode x hx
 have c2:=pw_rEncode y hy
 have hlx:=low_psumL x
 have hly:=low_psumL y
 refine pcalls_of_pw typeTab_ok Tryz.func17 rfl (by kernel_rfl) (by simp [low_psum]) (by simp [psum,psumL,PV.ownB]) (by rw [Tryz.ntmps17];simp) ?_
 rw [Tryz.ntmps17,Tryz.results17]
 generalize encZ x=l1 at *
 generalize encZ y=l2 at *
 cases e:((strI l1).toList == (strI l2).toList) <;>
 ·refine wk ?_
  exact retP rfl (by exact lw) rfl
end
end Go.Proofs.YtoamkpgaaanafaaGreat
