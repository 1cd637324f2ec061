/- Out of: Vh, Qh, Ua. -/
import Derived.Test.YtoamkpgaaanafaaGreatRows
import Derived.WalkKit
import Derived.WalkSpells
import Derived.WalkLawsBesides
import Derived.Deep.QuietTactic
import Derived.BigQuiet
import Derived.RegionTactic
import Derived.Lib.AppendZeros
import Derived.Lib.AppendStr
import Derived.Lib.Hide
import Derived.OrdersIn
import Derived.Laws.BytesString
import Derived.WideLaws
import Derived.RangeFuncRecord
import Derived.Orders
import GoSem.Step
import Derived.Laws.RangeAny
import Derived.Lib.OthersKept
import Derived.Outline
import Derived.Laws.EntriesVeiled
import Derived.KernelRfl
import Derived.StillTailTactics
import Derived.Deep.Cut
import Derived.RangeFuncCalls
import Derived.Lib.BitFns
import Derived.Test.YtoamkpgaaanafaaGreatShelf
import Derived.Test.YtoamkpgaaanafaaGreatIter
import Derived.Laws.Strings
import Derived.Test.YtoamkpgaaanafaaGreatG1
import Derived.Test.YtoamkpgaaanafaaGreatG3
import Derived.Test.YtoamkpgaaanafaaGreatG6
import Derived.Test.YtoamkpgaaanafaaGreatG7
import Derived.Test.YtoamkpgaaanafaaGreatG8
import Derived.Test.YtoamkpgaaanafaaGreatG9
import Derived.Test.YtoamkpgaaanafaaGreatG10
import Derived.Test.YtoamkpgaaanafaaGreatG11
import Derived.Test.YtoamkpgaaanafaaGreatG12
import Derived.Test.YtoamkpgaaanafaaGreatG14
import Derived.Test.YtoamkpgaaanafaaGreatG15
import Derived.Test.YtoamkpgaaanafaaGreatG17
import Derived.Test.YtoamkpgaaanafaaGreatG21
import Derived.Test.YtoamkpgaaanafaaGreatG24
import Derived.Test.YtoamkpgaaanafaaGreatG26
import Derived.Test.YtoamkpgaaanafaaGreatG29
import Derived.Test.YtoamkpgaaanafaaGreatG30
import Derived.Test.YtoamkpgaaanafaaGreatG32
import Derived.Test.YtoamkpgaaanafaaGreatG34
import Derived.Test.YtoamkpgaaanafaaGreatG35
namespace Go.Proofs.YtoamkpgaaanafaaGreat
set_option linter.unusedSimpArgs false
set_option linter.unusedVariables false
set_option linter.unnecessarySimpa false
section
open Go.RowKit
set_option maxRecDepth 10000 in
set_option maxHeartbeats 4000000 in
theorem pw_rEncode (z:PSum) (hz:EncOK z):PCalls Tryz.prog 49 [psum z] (· = pbytesO (encZ z)):=by
 have hlz:=low_psumL z
 have hlz1:Low (.ep (psumL z) 0):=.ep _ _ hlz
 obtain ⟨b1,b2⟩:=encZ_bound hz
 have hnf:=numsZ_fit hz
 have hnl:=numsZ_len z
 have hz2:=hz
 obtain ⟨-,-,-,-,-,n1,n2,n3,n4,n5,hw⟩:=hz2
 have hlsh:Low (pshells z.shells):=(low_pshells _).2 trivial
 have hlfl:Low (pflds z.fields):=(low_pflds _).2 trivial
 refine pcalls_of_pw typeTab_ok Tryz.func49 rfl (by kernel_rfl) (by simp [low_psum]) (by simp [psum,psumL,PV.ownB]) (by rw [Tryz.ntmps49];simp) ?_
 rw [Tryz.ntmps49,Tryz.results49]
 refine PW.seq ?_
 refine PW.region typeTab_ok (by kernel_rfl) ?_
 refine wg ?_
 refine PW.freezeP (id:=0) (s:=1) (off:=0) (σ':=bot) rfl rfl hlz (by exact sbr0) rfl ?_
 refine wk ?_
 refine PW.loop (fun k:Nat=>(bot.put 1 (.ep (psumL z) 0) |>.put 3 (.sl (9+z.box.lo.length+z.box.hi.length+2 * k) 1 ((boxN z ++ (z.shells.length:Int) :: shN (z.shells.take k)).map pint) (some 3)) |>.put 4 (pint k))) (fun k=>k≤z.shells.length) (fun k=>z.shells.length - k) 0 (by omega) ?_ ?_
 ·(refine Sub.same ?_;(repeat (first|exact SubR.bot|((with_reducible refine SubR.isp ?_);refine SubR.put ?_ (by exact rq0))|((with_reducible refine SubR.isb ?_);refine SubR.setb ?_ rfl rfl (by exact rl0))|((with_reducible refine SubR.ism ?_);refine SubR.setm ?_ rfl rfl (by (first|exact ⟨rfl,rfl,rfl,rfl,rfl⟩|exact RenM.low (by first|assumption|exact hlowm _|exact hlowm _ _))))|refine SubR.put ?_ (.inl (ren_eqlow (sl_eq ?_ ?_) (by exact lw))))))
  ·omega
  ·simp [shN,boxN,headZ,pint]
 intro k hk
 by_cases hlt:k < z.shells.length
 ·have hlsk:=low_pshL (z.shells.getD k default)
  refine wk ?_
  refine loopP (k+1) (by omega) (by omega) ?_
  (refine Sub.same ?_;(repeat (first|exact SubR.bot|((with_reducible refine SubR.isp ?_);refine SubR.put ?_ (by exact rq0))|((with_reducible refine SubR.isb ?_);refine SubR.setb ?_ rfl rfl (by exact rl0))|((with_reducible refine SubR.ism ?_);refine SubR.setm ?_ rfl rfl (by (first|exact ⟨rfl,rfl,rfl,rfl,rfl⟩|exact RenM.low (by first|assumption|exact hlowm _|exact hlowm _ _))))|refine SubR.put ?_ (.inl (ren_eqlow (sl_eq ?_ ?_) (by exact lw))))))
  ·omega
  ·rw [shN_take hlt];simp [pint]
 have e:z.shells.take k=z.shells:=List.take_of_length_le (by omega)
 simp only [e]
 refine wk ?_
 refine PW.loop (fun j:Nat=>(bot.put 1 (.ep (psumL z) 0) |>.put 3 (.sl (10+z.box.lo.length+z.box.hi.length+2 * k+4 * j) 1 ((boxN z ++ (z.shells.length:Int) :: shN z.shells ++ (z.fields.length:Int) :: flN (z.fields.take j)).map pint) (some 3)) |>.put 5 (.sl (flW (z.fields.take j)).length 1 ((flW (z.fields.take j)).map pstr) (some 9)) |>.put 6 (pint j))) (fun j=>j≤z.fields.length) (fun j=>z.fields.length - j) 0 (by omega) ?_ ?_
 ·(refine Sub.same ?_;(repeat (first|exact SubR.bot|((with_reducible refine SubR.isp ?_);refine SubR.put ?_ (by exact rq0))|((with_reducible refine SubR.isb ?_);refine SubR.setb ?_ rfl rfl (by exact rl0))|((with_reducible refine SubR.ism ?_);refine SubR.setm ?_ rfl rfl (by (first|exact ⟨rfl,rfl,rfl,rfl,rfl⟩|exact RenM.low (by first|assumption|exact hlowm _|exact hlowm _ _))))|refine SubR.put ?_ (.inl (ren_eqlow (sl_eq ?_ ?_) (by exact lw))))))
  all_goals first|omega|(simp [flN,pint];done)
 intro j hj
 by_cases hlj:j < z.fields.length
 ·have hlfk:=low_pfldL (z.fields.getD j default)
  have w1:=flW_le z.fields j
  have w2:=flW_word z.fields hlj
  refine wk ?_
  refine loopP (j+1) (by omega) (by omega) ?_
  (refine Sub.same ?_;(repeat (first|exact SubR.bot|((with_reducible refine SubR.isp ?_);refine SubR.put ?_ (by exact rq0))|((with_reducible refine SubR.isb ?_);refine SubR.setb ?_ rfl rfl (by exact rl0))|((with_reducible refine SubR.ism ?_);refine SubR.setm ?_ rfl rfl (by (first|exact ⟨rfl,rfl,rfl,rfl,rfl⟩|exact RenM.low (by first|assumption|exact hlowm _|exact hlowm _ _))))|refine SubR.put ?_ (.inl (ren_eqlow (sl_eq ?_ ?_) (by exact lw))))))
  ·omega
  ·rw [flN_take hlj];simp [pint]
  ·rw [flW_take hlj];simp
  ·rw [flW_take hlj];simp
 have ej:z.fields.take j=z.fields:=List.take_of_length_le (by omega)
 simp only [ej]
 have hc1:=pcRefInts (numsZ z) hnf (by omega)
 have hc2:=pcRefStrings (flW z.fields) hw (by omega)
 have e1:PV.sl (10+z.box.lo.length+z.box.hi.length+2 * k+4 * j) 1 ((boxN z ++ (z.shells.length:Int) :: shN z.shells ++ (z.fields.length:Int) :: flN z.fields).map pint) none=pints (numsZ z):=sl_eq (by rw [hnl];omega) rfl
 refine wk ?_
 refine PWops.call rfl rfl rfl (by first|(rw [e1];exact hc1)|exact hc1) ?_
 refine wk ?_
 refine retP rfl (.sl _ _ _ _ (fun c hc=>by simp at hc;rcases hc with ⟨z,-,rfl⟩|⟨z,-,rfl⟩<;>exact .val _)) ?_
 exact sl_eq (by simp [encZ]) (by simp [encZ])
set_option maxRecDepth 10000 in
set_option maxHeartbeats 1000000 in
theorem pw_rSame (x y:PSum) (hx:EncOK x) (hy:EncOK y):PCalls Tryz.prog 17 [psum x,psum y] (· = pbool ((strI (encZ x)).toList == (strI (encZ y)).toList)):=by
 have c1:=pw_rEncode x hx
 have c2:=pw_rEncode y hy
 have hlx:=low_psumL x
 have hly:=low_psumL y
 refine pcalls_of_pw typeTab_ok Tryz.func17 rfl (by kernel_rfl) (by simp [low_psum]) (by simp [psum,psumL,PV.ownB]) (by rw [Tryz.ntmps17];simp) ?_
 rw [Tryz.ntmps17,Tryz.results17]
 generalize encZ x=l1 at *
 generalize encZ y=l2 at *
 cases e:((strI l1).toList == (strI l2).toList) <;>
 ·refine wk ?_
  exact retP rfl (by exact lw) rfl
mutual
/-- Conditions that can be weighed. -/
def okP (s:PSchema):PPred→Prop
 | .mk op nm n m w subs=>(1≤op∧op≤7)∧(op=4→0 < subs.length)∧(5≤op→0≤findI s.defs nm)∧subs.length≤1000000∧okL s subs
def okL (s:PSchema):List PPred→Prop
 | []=>True
 |p :: l=>okP s p∧okL s l
end
def SmallW (s:PSchema) (z:PSum):Prop:=s.defs.length≤1000∧s.defs.length≤z.fields.length∧z.fields.length≤1000000∧∀k,(z.fields.getD k default).words.length≤1000000
end
section
open Go.RowKit
variable (s:PSchema) (z:PSum)
set_option maxRecDepth 10000 in
set_option maxHeartbeats 4000000 in
theorem hc_weigh0 (p:PPred) (t:PTruth) (h:(p.op=1∧WCalls s z 164 [.ptr 1000001 0,ppred p] (ptruth t))∨(p.op=2∧WCalls s z 165 [.ptr 1000001 0,ppred p,fNever,fNo] (ptruth t))∨(p.op=3∧WCalls s z 168 [.ptr 1000001 0,ppred p,fYes,fAlways] (ptruth t))∨(p.op=4∧WCalls s z 169 [.ptr 1000001 0,ppred p] (ptruth t))∨(p.op=5∧WCalls s z 170 [.ptr 1000001 0,ppred p] (ptruth t))∨(p.op=6∧WCalls s z 172 [.ptr 1000001 0,ppred p] (ptruth t))∨(p.op=7∧WCalls s z 173 [.ptr 1000001 0,ppred p] (ptruth t))) :
  WCalls s z 85 [.ptr 1000001 0,ppred p] (ptruth t):=by
 have hps:Low (ppreds p.subs):=(low_ppreds _).2 trivial
 unfold WCalls at *
 refine hcalls_of_pw typeTab_ok Tryz.func85 rfl (by kernel_rfl) (by simp [ppred,PV.ownB]) (by rw [Tryz.ntmps85];simp) (by simp [ResIds,wG,wMs]) (by simp [ResIds,wG,wMs]) (w_ok s z (w_args s z p) (low_ptruth _)) ?_ (w_givB s z) w_givM
 rw [Tryz.ntmps85,Tryz.results85]
 unfold ppred at *
 rcases h with ⟨ho,h⟩|⟨ho,h⟩|⟨ho,h⟩|⟨ho,h⟩|⟨ho,h⟩|⟨ho,h⟩|⟨ho,h⟩
 all_goals
  rw [prL_eq,ho] at h ⊢
  refine wk ?_
  exact w_ret (r:=ptruth t) rfl rfl rfl
end
section
open Go.RowKit
variable {s:PSchema} {z:PSum}
mutual
theorem hc_weigh (hs:SmallW s z):∀p:PPred,okP s p→WCalls s z 85 [.ptr 1000001 0,ppred p] (ptruth (canZ s z p))
 | .mk op nm n m w subs,h=>by
  rw [okP] at h
  obtain ⟨h1,h2,h3,h4,h5⟩:=h
  have hL:=hc_weighL hs subs h5
  have ha:=hc_all s z (.mk op nm n m w subs) h4 hL
  have hfld:5≤op→WCalls s z 171 [.ptr 1000001 0,pstr nm] (pfld (fieldAt s z nm)):=fun h=>by
   have hf:=h3 h
   obtain ⟨d,hd⟩:=findI_get hf
   have hlt:=(List.getElem?_eq_some_iff.1 hd).1
   exact hc_field s z nm hf (by have:=hs.2.1;omega) hs.1 hs.2.2.1
  refine hc_weigh0 s z _ _ ?_
  rw [canZ]
  rcases (show op=1∨op=2∨op=3∨op=4∨op=5∨op=6∨op=7 by omega) with rfl|rfl|rfl|rfl|rfl|rfl|rfl
  ·refine .inl ⟨rfl,?_⟩
   rw [if_pos rfl]
   exact hc_w5 s z _
  ·refine .inr (.inl ⟨rfl,?_⟩)
   rw [if_neg (by decide),if_pos rfl,canL_eq]
   exact hc_w6 s z _ h4 ha
  ·refine .inr (.inr (.inl ⟨rfl,?_⟩))
   rw [if_neg (by decide),if_neg (by decide),if_pos rfl,canL_eq]
   exact hc_w7 s z _ h4 ha
  ·refine .inr (.inr (.inr (.inl ⟨rfl,?_⟩)))
   have h0:=h2 rfl
   rw [if_neg (by decide),if_neg (by decide),if_neg (by decide),if_pos rfl,canL_eq]
   have e:(subs.map (canZ s z)).getD 0 default=canZ s z (subs.getD 0 default):=by
    simp [List.getD_eq_getElem?_getD,h0]
   rw [e]
   exact hc_w8 s z (.mk 4 nm n m w subs) h4 h0 (hL 0 h0)
  ·refine .inr (.inr (.inr (.inr (.inl ⟨rfl,?_⟩))))
   rw [if_neg (by decide),if_neg (by decide),if_neg (by decide),if_neg (by decide),if_pos rfl]
   exact hc_w9 s z (.mk 5 nm n m w subs) (hfld (by decide))
  ·refine .inr (.inr (.inr (.inr (.inr (.inl ⟨rfl,?_⟩)))))
   rw [if_neg (by decide),if_neg (by decide),if_neg (by decide),if_neg (by decide),if_neg (by decide),if_pos rfl,←mxI_eq,←mnI_eq]
   exact hc_w10 s z (.mk 6 nm n m w subs) (hfld (by decide))
  ·refine .inr (.inr (.inr (.inr (.inr (.inr ⟨rfl,?_⟩)))))
   rw [if_neg (by decide),if_neg (by decide),if_neg (by decide),if_neg (by decide),if_neg (by decide),if_neg (by decide)]
   exact hc_w11 s z (.mk 7 nm n m w subs) (hs.2.2.2 _) (hfld (by decide))
theorem hc_weighL (hs:SmallW s z):∀l:List PPred,okL s l→∀k,k < l.length→WCalls s z 85 [.ptr 1000001 0,ppred (l.getD k default)] (ptruth (canZ s z (l.getD k default)))
 | [],_,k,hk=>by simp at hk
 |p :: l,h,k,hk=>by
  rw [okL] at h
  cases k with
  |zero=>exact hc_weigh hs p h.1
  |succ k=>
   have:=hc_weighL hs l h.2 k (by simpa using hk)
   simpa using this
end
end
section
open Go.RowKit
theorem hc_weighA {s:PSchema} {z:PSum} (hs:SmallW s z) (p:PPred) (hp:okP s p) (w m:Nat) (hwm:w≠m):HCalls Tryz.prog 85 [.ptr w 0,ppred p] (wG s z w m) (wMs m) (ptruth (canZ s z p)) (wG s z w m) (wMs m):=by
 have l1:=low_ppred p
 have m1:∀{S:Nat→Prop},S 1000002→RenB (renN [(1000001,w),(1000002,m)]) S (wG s z 1000001 1000002) (wG s z w m):=by
  intro S hS
  refine RenB.cons _ _ _ _ _ ?_ RenB.nil
  unfold wC
  refine RenL.cons (Ren.low _ (.val _)) (RenL.cons (Ren.low _ (.val _)) (RenL.cons (Ren.low _ ((low_pdefs _).2 trivial)) (RenL.cons (Ren.low _ (.val _)) (RenL.cons (Ren.low _ ((low_pints _).2 trivial)) (RenL.cons (Ren.low _ ((low_pints _).2 trivial)) (RenL.cons (Ren.low _ ((low_pshells _).2 trivial)) (RenL.cons (Ren.low _ (.val _)) (RenL.cons (Ren.low _ (.val _)) (RenL.cons (Ren.low _ (.val _)) (RenL.cons (Ren.low _ (.val _)) (RenL.cons (Ren.low _ (.val _)) (RenL.cons (Ren.low _ ((low_pflds _).2 trivial)) (RenL.cons ?_ RenL.nil)))))))))))))
  exact Ren.mref _ hS
 have m2:∀{S:Nat→Prop},RenMs (renN [(1000001,w),(1000002,m)]) S (wMs 1000002) (wMs m):=RenMs.cons _ _ _ _ _ (RenM.low low_ways) RenMs.nil
 refine HCalls.at (hc_weigh hs p hp) [(1000001,w),(1000002,m)] (by simpa using hwm) (by simp [ResIds,wG,wMs]) (by simp [wG]) (by simp [wMs]) ?_ (m1 (by simp [ResIds,wG,wMs])) m2 (Ren.low _ (low_ptruth _)) (m1 (by simp [ResIds,wG,wMs])) m2
 exact RenL.cons (Ren.ptr _ _ (by simp [ResIds,wG,wMs])) (RenL.cons (Ren.low _ (l1.2 trivial)) RenL.nil)
set_option maxRecDepth 10000 in
set_option maxHeartbeats 2000000 in
theorem pw_can {s:PSchema} {z:PSum} (hs:SmallW s z) (p:PPred) (hp:okP s p):PCalls Tryz.prog 31 [pschema s,psum z,ppred p] (· = .tup [pbool (canZ s z p).yes,pbool (canZ s z p).no]):=by
 have h1:=hc_ways 900001
 have h2:=hc_weighA hs p hp 1004 900001 (by decide)
 have hls:=low_schCells s
 have hlz:=low_psumL z
 have hlp:=low_prL p
 refine pcalls_of_pw typeTab_ok Tryz.func31 rfl (by kernel_rfl) (by simp [low_pschema,low_psum,low_ppred]) (by simp [pschema,psum,ppred,PV.ownB]) (by rw [Tryz.ntmps31];simp) ?_
 rw [Tryz.ntmps31,Tryz.results31]
 generalize canZ s z p=t at *
 refine PW.seq ?_
 refine PW.region typeTab_ok (by kernel_rfl) ?_
 refine wg ?_
 refine PW.drawF (fun i id=>Nat.beq i 2 && Nat.ble id 2) typeTab_ok (by kernel_rfl) (by kernel_rfl) (by kernel_rfl) ?_
 refine wk ?_
 exact retP (r:=.tup [pbool t.yes,pbool t.no]) rfl (by simp [low_tup,low_pbool]) rfl
theorem PCalls.weakA {P:Program} {f:FuncId} {args args' : List PV} {post:PV→Prop} (h:PCalls P f args post) (hw:WeakL args' args):PCalls P f args' post:=by
 refine ⟨h.1,fun Φ μ w vs h1 hgl h2=>h.2 Φ μ w vs h1 hgl ⟨by rw [h2.1,hw.len],fun j p v hp hv=>?_⟩⟩
 obtain ⟨q,hq,hpq⟩:=hw.get j p hp
 exact hpq.1 Φ μ v (h2.2 j q v hq hv)
def nColour:ByteArray:=⟨#[99,111,108,111,117,114]⟩
def nWeight:ByteArray:=⟨#[119,101,105,103,104,116]⟩
def nBlue:ByteArray:=⟨#[98,108,117,101]⟩
def nRed:ByteArray:=⟨#[114,101,100]⟩
def exS:PSchema:=⟨1,1,[⟨nColour,2,0,0,[nBlue,nRed]⟩,⟨nWeight,1,0,9,[]⟩]⟩
def exA:PEntry:=⟨1,1,1,0,1,9,1,[3],[⟨nColour,2,0,nRed⟩]⟩
def exB:PEntry:=⟨2,1,1,0,5,1048577,4,[7],[⟨nColour,2,0,nBlue⟩,⟨nWeight,1,2,ByteArray.empty⟩]⟩
def exO:PEntry:=⟨1,1,1,0,1,9,1,[3],[⟨nColour,2,0,nRed⟩,⟨nWeight,1,3,ByteArray.empty⟩]⟩
def exZ:PSum:=⟨2,⟨[3],[7]⟩,[],1,5,1048577,1,4,[⟨2,0,0,[nBlue,nRed]⟩,⟨1,2,2,[]⟩]⟩
def mergeN:Nat→List ByteArray→List ByteArray→List ByteArray
 |0,_,_ => []
 |_+1,[],b=>b
 |_+1,x :: a,[]=>x :: a
 |n+1,x :: a,y :: b=>if Op.bytesLess x.toList y.toList=true then x :: mergeN n a (y :: b) else if x.toList == y.toList then y :: mergeN n a b else y :: mergeN n (x :: a) b
theorem mergeN_W:∀(n:Nat) (a b:List ByteArray),a.length+b.length < n→mergeN n a b=mergeW a b
 |0,a,b,h=>by omega
 |n+1,[],b,h=>by rw [mergeN,mergeW]
 |n+1,x :: a,[],h=>by rw [mergeN,mergeW]
 |n+1,x :: a,y :: b,h=>by
  simp only [List.length_cons] at h
  rw [mergeN,mergeW,mergeN_W n a (y :: b) (by simp only [List.length_cons];omega),mergeN_W n a b (by omega),mergeN_W n (x :: a) b (by simp only [List.length_cons];omega)]
def joinRN (a b:PField):PField:=if a.has=0 then b else if b.has=0 then a else ⟨a.has+b.has,mnI a.lo b.lo,mxI a.hi b.hi,mergeN (a.words.length+b.words.length+1) a.words b.words⟩
theorem joinR_N:joinR=joinRN:=by
 funext a b
 unfold joinR joinRN
 rw [mergeN_W _ _ _ (by omega)]
theorem refL_ex:refL exS [] [exA,exB]=exZ:=by
 unfold refL
 rw [joinR_N]
 kernel_rfl
theorem exE1:entryE exS exA=0:=by kernel_rfl
theorem exE2:entryE exS exB=0:=by kernel_rfl
theorem exC:checkE exS=0:=by kernel_rfl
theorem zOf_ex:zOf exS [] [exA,exB]=(exZ,0):=by
 rw [zOf_ref]
 unfold refOf
 rw [if_neg (by rw [exC];simp),if_neg (by simp [exE1,exE2]),if_neg (by simp),refL_ex]
theorem exEnc:EncOK exZ:=by
 refine ⟨?_,?_,?_,?_,?_,by decide,by decide,by decide,by decide,by decide,?_⟩
 ·intro x hx
  simp only [headZ,exZ,List.mem_cons,List.not_mem_nil,or_false] at hx
  omega
 ·intro x hx
  simp only [exZ,List.mem_cons,List.not_mem_nil,or_false] at hx
  omega
 ·intro x hx
  simp only [exZ,List.mem_cons,List.not_mem_nil,or_false] at hx
  omega
 ·intro x hx
  simp [exZ] at hx
 ·intro x hx
  simp only [exZ,List.mem_cons,List.not_mem_nil,or_false] at hx
  rcases hx with rfl|rfl
  ·exact ⟨⟨by simp,by simp⟩,⟨by simp,by simp⟩,⟨by simp,by simp⟩⟩
  ·exact ⟨⟨by simp,by simp⟩,⟨by simp,by simp⟩,⟨by simp,by simp⟩⟩
 ·intro x hx
  have:x=nBlue∨x=nRed:=by simpa [flW,exZ] using hx
  rcases this with rfl|rfl<;>decide
def exSraw:PV:=.agg [pint 1,pint 1, .sl 2 5 [pstr nColour,pint 2,pint 0,pint 0, .sl 2 1 [pstr nBlue,pstr nRed] none,pstr nWeight,pint 1,pint 0,pint 9, .nilsl] none]
theorem weak_exS:Weak exSraw (pschema exS):=
 .agg (.cons (.refl _) (.cons (.refl _) (.cons (.sl (.cons (.refl _) (.cons (.refl _) (.cons (.refl _) (.cons (.refl _) (.cons (.refl _) (.cons (.refl _) (.cons (.refl _) (.cons (.refl _) (.cons (.refl _) (.cons (.nil 1) .nil))))))))))) .nil)))
set_option maxRecDepth 10000 in
set_option maxHeartbeats 1000000 in
theorem pw_example:PCalls Tryz.prog 52 [] (· = .tup [pschema exS,pentries [exA,exB]]):=by
 refine PCalls.weak ?_
 refine pcalls_of_pw typeTab_ok Tryz.func52 rfl (by kernel_rfl) (by simp) (by simp) (by rw [Tryz.ntmps52];simp) ?_
 rw [Tryz.ntmps52,Tryz.results52]
 refine PW.seq ?_
 refine PW.region typeTab_ok (by kernel_rfl) ?_
 refine wg ?_
 refine PW.region typeTab_ok (by kernel_rfl) ?_
 refine wg ?_
 refine PW.region typeTab_ok (by kernel_rfl) ?_
 refine wg ?_
 refine PW.region typeTab_ok (by kernel_rfl) ?_
 refine wg ?_
 refine PW.drawE typeTab_ok (by kernel_rfl) (by kernel_rfl) (by kernel_rfl) ?_
 refine wk ?_
 refine retP (r:=.tup [exSraw,pentries [exA,exB]]) rfl ?_ (.tup (.cons weak_exS (.cons (.refl _) .nil)))
 simp [low_tup,low_pentries,exSraw,low_agg,low_pint,low_sl,low_pstr,low_nilsl]
theorem ex1:sumB exS 0 exZ=true:=by kernel_rfl
theorem ex2:zBound exS exZ [0] []=(3,0):=by kernel_rfl
def p1:PPred:=.mk 6 nWeight 0 1 ByteArray.empty []
def p2:PPred:=.mk 7 nColour 0 0 nRed []
def p3:PPred:=.mk 5 nWeight 0 0 ByteArray.empty []
theorem ex3:canZ exS exZ p1=⟨false,true⟩:=by kernel_rfl
theorem ex4:canZ exS exZ p2=⟨true,true⟩:=by kernel_rfl
theorem ex5:canZ exS exZ p3=⟨true,true⟩:=by kernel_rfl
theorem ex6:zSeen exZ ⟨0,9⟩=false:=by kernel_rfl
theorem ex7:zSeen exZ ⟨1,0⟩=false:=by kernel_rfl
theorem ex8:zSeen exZ ⟨3,2⟩=true:=by kernel_rfl
theorem ex9:obeysZ exS [] exZ exA=true:=by kernel_rfl
theorem ex10:obeysZ exS [] exZ exO=false:=by kernel_rfl
theorem exF1:findI exS.defs nWeight=1:=by kernel_rfl
theorem exF2:findI exS.defs nColour=0:=by kernel_rfl
theorem smallS_ex:SmallS exS:=by
 have:FewS exS:=fewDefsB_few (by kernel_rfl)
 exact this.small
theorem smallZ_ex:SmallZ exZ:=⟨by decide,by decide,by decide,by decide,fun k=>by
 match k with
 |0=>decide
 |1=>decide
 |k+2=>exact (by decide:(0:Nat)≤1000000)⟩
theorem smallW_ex:SmallW exS exZ:=⟨by decide,by decide,by decide,smallZ_ex.2.2.2.2⟩
theorem okP_ex {op n m:Int} {nm w:ByteArray} (h1:5≤op) (h2:op≤7) (h3:0≤findI exS.defs nm):okP exS (.mk op nm n m w []):=by
 rw [okP]
 exact ⟨⟨by omega,h2⟩,fun h=>by omega,fun _=>h3,by simp,by rw [okL];trivial⟩
def exWant:PV:=.agg [pint 2,pints [3],pints [7], .nilsl,pint 1,pint 5,pint 1048577,pint 1,pint 4, .sl 2 4 [pint 2,pint 0,pint 0, .sl 2 1 [pstr nBlue,pstr nRed] none,pint 1,pint 2,pint 2, .nilsl] none]
theorem weak_want:Weak exWant (psum exZ):=.agg (.cons (.refl _) (.cons (.refl _) (.cons (.refl _) (.cons (.nil 2) (.cons (.refl _) (.cons (.refl _) (.cons (.refl _) (.cons (.refl _) (.cons (.refl _) (.cons (.sl (.cons (.refl _) (.cons (.refl _) (.cons (.refl _) (.cons (.refl _) (.cons (.refl _) (.cons (.refl _) (.cons (.refl _) (.cons (.nil 1) .nil))))))))) .nil))))))))))
def prRaw (p:PPred):PV:=.agg [pint p.op,pstr p.name,pint p.n,pint p.m,pstr p.s, .nilsl]
theorem weak_pr (p:PPred) (h:p.subs = []):Weak (prRaw p) (ppred p):=by
 unfold ppred
 rw [prL_eq,h]
 exact .agg (.cons (.refl _) (.cons (.refl _) (.cons (.refl _) (.cons (.refl _) (.cons (.refl _) (.cons (.nil 6) .nil))))))
theorem canOf {p:PPred} {t:PTruth} (h:canZ exS exZ p=t) (hs:p.subs = []) (ho:okP exS p):PCalls Tryz.prog 31 [pschema exS,psum exZ,prRaw p] (· = .tup [pbool t.yes,pbool t.no]):=by
 have:=pw_can smallW_ex p ho
 rw [h] at this
 exact this.weakA (.cons (.refl _) (.cons (.refl _) (.cons (weak_pr p hs) .nil)))
theorem obeysOf {e:PEntry} {b:Bool} (h:obeysZ exS [] exZ e=b) (hv:e.vec = [3]) (ha:e.attrs.length≤1000000):PCalls Tryz.prog 22 [pschema exS, .nilsl,psum exZ,pentry e] (· = pbool b):=by
 have:=pw_obeys exS [] exZ e smallZ_ex smallS_ex (by rw [hv];decide) ha (by decide) (by decide) (fun k hk=>by simp at hk) (fun _=>by rw [hv];exact ⟨by decide,by decide⟩) (by decide)
 rw [h] at this
 exact this.weakA (.cons (.refl _) (.cons (.nil 1) (.cons (.refl _) (.cons (.refl _) .nil))))
end
end Go.Proofs.YtoamkpgaaanafaaGreat
