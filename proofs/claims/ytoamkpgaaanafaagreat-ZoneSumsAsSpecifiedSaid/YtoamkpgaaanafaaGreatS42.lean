/- Merged: Qd, Qe, Qf. -/
import Derived.Test.YtoamkpgaaanafaaGreatS16
import Derived.Test.YtoamkpgaaanafaaGreatS17
import Derived.Test.YtoamkpgaaanafaaGreatS22
import Derived.Test.YtoamkpgaaanafaaGreatS27
import Derived.Test.YtoamkpgaaanafaaGreatS33
/- zone: conditions, the weigher. -/
namespace Go.Proofs.YtoamkpgaaanafaaGreat
set_option linter.unusedSimpArgs false
set_option linter.unusedVariables false
set_option linter.unnecessarySimpa false
open Go.RowKit
inductive PPred where
 |mk (op:Int) (name:ByteArray) (n m:Int) (s:ByteArray) (subs:List PPred)
 deriving Inhabited
def PPred.op:PPred→Int | .mk op _ _ _ _ _=>op
def PPred.name:PPred→ByteArray | .mk _ nm _ _ _ _=>nm
def PPred.n:PPred→Int | .mk _ _ n _ _ _=>n
def PPred.m:PPred→Int | .mk _ _ _ m _ _=>m
def PPred.s:PPred→ByteArray | .mk _ _ _ _ s _=>s
def PPred.subs:PPred→List PPred | .mk _ _ _ _ _ l=>l
mutual
def ppredL:PPred→List PV
 | .mk op nm n m s subs => [pint op,pstr nm,pint n,pint m,pstr s, .sl subs.length 6 (ppredLs subs) none]
def ppredLs:List PPred→List PV
 | [] => []
 |p :: l=>ppredL p ++ ppredLs l
end
def prL (p:PPred):List PV := [pint p.op,pstr p.name,pint p.n,pint p.m,pstr p.s, .sl p.subs.length 6 (ppredLs p.subs) none]
theorem ppredL_eq (p:PPred):ppredL p=prL p:=by
 cases p with
 |mk op nm n m s subs=>rw [ppredL];rfl
theorem ppredLs_eq:∀l,ppredLs l=l.flatMap prL
 | []=>by simp [ppredLs]
 |p :: l=>by rw [ppredLs,ppredLs_eq l,List.flatMap_cons,ppredL_eq]
def ppreds (l:List PPred):PV:=.sl l.length 6 (l.flatMap prL) none
def ppred (p:PPred):PV:=.agg (prL p)
theorem prL_eq (p:PPred):prL p = [pint p.op,pstr p.name,pint p.n,pint p.m,pstr p.s,ppreds p.subs]:=by
 unfold prL ppreds
 rw [ppredLs_eq]
mutual
theorem low_ppredL:∀p:PPred,∀c∈ppredL p,Low c
 | .mk op nm n m s subs=>by
  intro c hc
  rw [ppredL] at hc
  simp only [List.mem_cons,List.not_mem_nil,or_false] at hc
  rcases hc with rfl|rfl|rfl|rfl|rfl|rfl
  ·exact .val _
  ·exact .val _
  ·exact .val _
  ·exact .val _
  ·exact .val _
  ·exact .sl _ _ _ _ (low_ppredLs subs)
theorem low_ppredLs:∀l:List PPred,∀c∈ppredLs l,Low c
 | []=>by intro c hc;simp [ppredLs] at hc
 |p :: l=>by
  intro c hc
  rw [ppredLs,List.mem_append] at hc
  rcases hc with hc|hc
  ·exact low_ppredL p c hc
  ·exact low_ppredLs l c hc
end
theorem low_prL (p:PPred):∀c∈prL p,Low c:=by rw [←ppredL_eq];exact low_ppredL p
theorem low_ppred (p:PPred):Low (ppred p)↔True:=⟨fun _=>trivial,fun _=>.agg _ (low_prL p)⟩
theorem low_ppreds (l:List PPred):Low (ppreds l)↔True:=⟨fun _=>trivial,fun _=>.sl _ _ _ _ (by rw [←ppredLs_eq];exact low_ppredLs l)⟩
def fieldAt (s:PSchema) (z:PSum) (nm:ByteArray):PField:=z.fields.getD (findI s.defs nm).toNat default
mutual
def canZ (s:PSchema) (z:PSum):PPred→PTruth
 | .mk op nm n m w subs=>
  if op=1 then ⟨true,false⟩
  else if op=2 then ⟨!(canL s z subs).any (fun t => !t.yes),(canL s z subs).any (fun t=>t.no)⟩
  else if op=3 then ⟨(canL s z subs).any (fun t=>t.yes),!(canL s z subs).any (fun t => !t.no)⟩
  else if op=4 then ⟨((canL s z subs).getD 0 default).no,((canL s z subs).getD 0 default).yes⟩
  else if op=5 then ⟨decide ((fieldAt s z nm).has > 0),decide ((fieldAt s z nm).has < z.count)⟩
  else if op=6 then (if (fieldAt s z nm).has=0 then ⟨false,true⟩ else ⟨decide (max (fieldAt s z nm).lo n≤min (fieldAt s z nm).hi m),decide ((fieldAt s z nm).has < z.count) || (decide ((fieldAt s z nm).lo < n) || decide ((fieldAt s z nm).hi > m))⟩)
  else ⟨hasB (fieldAt s z nm).words w,decide ((fieldAt s z nm).has < z.count) || (fieldAt s z nm).words.any (fun x => !eqB x w)⟩
def canL (s:PSchema) (z:PSum):List PPred→List PTruth
 | [] => []
 |p :: l=>canZ s z p :: canL s z l
end
theorem canL_eq (s:PSchema) (z:PSum):∀l,canL s z l=l.map (canZ s z)
 | []=>by simp [canL]
 |p :: l=>by rw [canL,canL_eq s z l,List.map_cons]
end Go.Proofs.YtoamkpgaaanafaaGreat

/- zone: the weigher's walks. -/
namespace Go.Proofs.YtoamkpgaaanafaaGreat
set_option linter.unusedSimpArgs false
set_option linter.unusedVariables false
set_option linter.unnecessarySimpa false
open Go.RowKit
theorem idxF_idxGo {α:Type} (p:α→Bool):∀(l:List α) (k:Int),idxGo (l.map p) k=(match l.findIdx? p with|some i=>k+i|none => -1)
 | [],k=>by simp [idxGo]
 |a :: l,k=>by
  rw [List.map_cons,idxGo,List.findIdx?_cons]
  cases h:p a with
  |true=>simp
  |false=>
   simp only [Bool.false_eq_true,if_false]
   rw [idxF_idxGo p l (k+1)]
   cases l.findIdx? p with
   |none=>rfl
   |some i=>show k+1+(i:Int)=k+((i+1:Nat):Int);omega
theorem idxF_findI (l:List PDef) (nm:ByteArray):idxF (fun d=>eqB d.name nm) l=findI l nm:=by
 unfold findI idxB
 rw [idxF_idxGo]
 unfold idxF
 cases l.findIdx? (fun d=>eqB d.name nm) with
 |none=>rfl
 |some i=>simp
def fYes:PV:=.ep [.fn 160 []] 0
def fNo:PV:=.ep [.fn 161 []] 0
def fNever:PV:=.ep [.fn 162 []] 0
def fAlways:PV:=.ep [.fn 163 []] 0
theorem low_fn0 (f:Nat):Low (.fn f []):=.fn _ _ (by simp)
theorem low_fe (f:Nat):∀c ∈ [PV.fn f []],Low c:=by
 intro c hc
 simp only [List.mem_cons,List.not_mem_nil,or_false] at hc
 subst hc;exact low_fn0 f
theorem low_fep (f:Nat):Low (.ep [.fn f []] 0):=.ep _ _ (low_fe f)
def waysE:List (Nat×PV×PV) := [(0,pint 1, .fn 164 []),(1,pint 2, .fn 165 [fNever,fNo]),(2,pint 3, .fn 168 [fYes,fAlways]),(3,pint 4, .fn 169 []),(4,pint 5, .fn 170 []),(5,pint 6, .fn 172 []),(6,pint 7, .fn 173 [])]
def waysM:PMap:=.map waysE 7
theorem low_ways:∀e∈waysE,Low e.2.1∧Low e.2.2:=by
 intro e he
 simp only [waysE,List.mem_cons,List.not_mem_nil,or_false] at he
 have l2:∀(f a b:Nat),Low (.fn f [.ep [.fn a []] 0, .ep [.fn b []] 0]):=fun f a b=>.fn _ _ (by
  intro c hc
  simp only [List.mem_cons,List.not_mem_nil,or_false] at hc
  rcases hc with rfl|rfl<;>exact low_fep _)
 rcases he with rfl|rfl|rfl|rfl|rfl|rfl|rfl<;>refine ⟨.val _,?_⟩<;>first|exact low_fn0 _|exact l2 _ _ _
set_option maxRecDepth 10000 in
set_option maxHeartbeats 1000000 in
theorem hc_ways1:HCalls Tryz.prog 84 [] [] [] (.mref 5000) [] [(5000,waysM)]:=by
 have e1:=low_fe 160
 have e2:=low_fe 161
 have e3:=low_fe 162
 have e4:=low_fe 163
 refine hcalls_of_pw typeTab_ok Tryz.func84 rfl (by kernel_rfl) (by simp) (by rw [Tryz.ntmps84];simp) (by simp [ResIds]) (by simp [ResIds]) ⟨by exact li0,by exact li0,lm_nil, .mref _ (by simp [ResIds]),by exact li0,lm_cons low_ways lm_nil,by simp,by simp⟩ ?_
 rw [Tryz.ntmps84,Tryz.results84]
 refine PW.seq ?_
 refine PW.region typeTab_ok (by kernel_rfl) ?_
 refine wg ?_
 refine PW.region typeTab_ok (by kernel_rfl) ?_
 refine wg ?_
 refine PW.region typeTab_ok (by kernel_rfl) ?_
 refine wg ?_
 refine PW.region typeTab_ok (by kernel_rfl) ?_
 refine wg ?_
 refine PW.region typeTab_ok (by kernel_rfl) ?_
 refine wg ?_
 have hf1:Low fYes:=low_fep _
 have hf2:Low fNo:=low_fep _
 have hf3:Low fNever:=low_fep _
 have hf4:Low fAlways:=low_fep _
 refine PW.freezeP (id:=1000) (s:=1) (off:=0) (σ':=(((((bot.setb 2000 [.fn 161 []]).setb 3000 [.fn 162 []]).setb 4000 [.fn 163 []]).put 2 (.ptr 2000 0)).put 3 (.ptr 3000 0)).put 4 (.ptr 4000 0)) rfl rfl e1 (by exact sbr0) rfl ?_
 refine PW.freezeP (id:=2000) (s:=2) (off:=0) (σ':=((((bot.setb 3000 [.fn 162 []]).setb 4000 [.fn 163 []]).put 1 fYes).put 3 (.ptr 3000 0)).put 4 (.ptr 4000 0)) rfl rfl e2 (by exact sbr0) rfl ?_
 refine PW.freezeP (id:=3000) (s:=3) (off:=0) (σ':=(((bot.setb 4000 [.fn 163 []]).put 1 fYes).put 2 fNo).put 4 (.ptr 4000 0)) rfl rfl e3 (by exact sbr0) rfl ?_
 refine PW.freezeP (id:=4000) (s:=4) (off:=0) (σ':=((bot.put 1 fYes).put 2 fNo).put 3 fNever) rfl rfl e4 (by exact sbr0) rfl ?_
 refine wk ?_
 refine PWops.mkMG rfl rfl rfl rfl ?_
 refine PWops.mins rfl rfl rfl rfl rfl rfl rfl rfl rfl rfl rfl rfl rfl ?_
 (refine ops0 ?_)
 refine PWops.mins rfl rfl rfl rfl rfl rfl rfl rfl rfl rfl rfl rfl rfl ?_
 (refine ops0 ?_)
 refine PWops.mins rfl rfl rfl rfl rfl rfl rfl rfl rfl rfl rfl rfl rfl ?_
 refine PWops.mins rfl rfl rfl rfl rfl rfl rfl rfl rfl rfl rfl rfl rfl ?_
 refine PWops.mins rfl rfl rfl rfl rfl rfl rfl rfl rfl rfl rfl rfl rfl ?_
 refine PWops.mins rfl rfl rfl rfl rfl rfl rfl rfl rfl rfl rfl rfl rfl ?_
 refine PWops.mins rfl rfl rfl rfl rfl rfl rfl rfl rfl rfl rfl rfl rfl ?_
 refine wk ?_
 exact RetH.mk rfl (Weak.refl _) trivial ⟨⟨rfl,rfl⟩,trivial⟩
theorem hc_ways (id:Nat):HCalls Tryz.prog 84 [] [] [] (.mref id) [] [(id,waysM)]:=
 hc_ways1.at [(5000,id)] (by simp) (by simp [ResIds]) (by simp) (by simp) RenL.nil RenB.nil RenMs.nil (.mref _ (by simp [ResIds])) RenB.nil (RenMs.cons _ _ _ _ _ (RenM.low low_ways) RenMs.nil)
set_option maxRecDepth 10000 in
theorem pw_yes (t:PTruth):PCalls Tryz.prog 160 [ptruth t] (· = pbool t.yes):=by
 refine pcalls_of_pw typeTab_ok Tryz.func160 rfl (by kernel_rfl) (by simp [ptruth,truthL,low_agg,low_pbool]) (by simp [ptruth,PV.ownB]) (by rw [Tryz.ntmps160];simp) ?_
 rw [Tryz.ntmps160,Tryz.results160]
 unfold ptruth truthL
 refine wk ?_
 exact retP rfl (by exact lw) rfl
set_option maxRecDepth 10000 in
theorem pw_no (t:PTruth):PCalls Tryz.prog 161 [ptruth t] (· = pbool t.no):=by
 refine pcalls_of_pw typeTab_ok Tryz.func161 rfl (by kernel_rfl) (by simp [ptruth,truthL,low_agg,low_pbool]) (by simp [ptruth,PV.ownB]) (by rw [Tryz.ntmps161];simp) ?_
 rw [Tryz.ntmps161,Tryz.results161]
 unfold ptruth truthL
 refine wk ?_
 exact retP rfl (by exact lw) rfl
set_option maxRecDepth 10000 in
theorem pw_never (t:PTruth):PCalls Tryz.prog 162 [ptruth t] (· = pbool (!t.yes)):=by
 refine pcalls_of_pw typeTab_ok Tryz.func162 rfl (by kernel_rfl) (by simp [ptruth,truthL,low_agg,low_pbool]) (by simp [ptruth,PV.ownB]) (by rw [Tryz.ntmps162];simp) ?_
 rw [Tryz.ntmps162,Tryz.results162]
 unfold ptruth truthL
 refine wk ?_
 exact retP rfl (by exact lw) rfl
set_option maxRecDepth 10000 in
theorem pw_always (t:PTruth):PCalls Tryz.prog 163 [ptruth t] (· = pbool (!t.no)):=by
 refine pcalls_of_pw typeTab_ok Tryz.func163 rfl (by kernel_rfl) (by simp [ptruth,truthL,low_agg,low_pbool]) (by simp [ptruth,PV.ownB]) (by rw [Tryz.ntmps163];simp) ?_
 rw [Tryz.ntmps163,Tryz.results163]
 unfold ptruth truthL
 refine wk ?_
 exact retP rfl (by exact lw) rfl
set_option maxRecDepth 10000 in
theorem pw_some (f:Nat) (p:PTruth→Bool) (l:List PTruth) (hf:Nat.blt f 1000000=true) (hl:l.length≤1000000000000) (hp:∀t,PCalls Tryz.prog f [ptruth t] (· = pbool (p t))):PCalls Tryz.prog 167 [ptruths l, .fn f []] (· = pbool (l.any p)):=by
 have h:=pw_anyT f [] p l hf hl (by simp) (fun k _=>hp _)
 have hl1:=low_fn0 f
 refine pcalls_of_pw typeTab_ok Tryz.func167 rfl (by kernel_rfl) (by simp [low_ptruths,hl1]) (by simp [ptruths,PV.ownB]) (by rw [Tryz.ntmps167];simp) ?_
 rw [Tryz.ntmps167,Tryz.results167]
 refine wk ?_
 exact retP rfl (by exact lw) rfl
set_option maxRecDepth 10000 in
theorem pw_fieldD (nm:ByteArray) (d:PDef):PCalls Tryz.prog 241 [.agg (pdefL d), .ep [pstr nm] 0] (· = pbool (eqB d.name nm)):=by
 have hl1:Low (.ep [pstr nm] 0):=by simp [low_ep,low_pstr]
 have hd:=low_pdefL d
 refine pcalls_of_pw typeTab_ok Tryz.func241 rfl (by kernel_rfl) (by simp [low_pdef,hl1]) (by simp [PV.ownB]) (by rw [Tryz.ntmps241];simp) ?_
 rw [Tryz.ntmps241,Tryz.results241]
 unfold pdefL at *
 cases e:eqB d.name nm <;>
 ·have e' : (d.name.toList == nm.toList)=_:=e
  refine wk ?_
  exact retP rfl (by exact lw) rfl
set_option maxRecDepth 10000 in
theorem pw_other (p:PPred) (w:ByteArray):PCalls Tryz.prog 174 [pstr w, .ep (prL p) 0] (· = pbool (!eqB w p.s)):=by
 have hl1:Low (.ep (prL p) 0):=.ep _ _ (low_prL p)
 refine pcalls_of_pw typeTab_ok Tryz.func174 rfl (by kernel_rfl) (by simp [low_pstr,hl1]) (by simp [pstr,PV.ownB]) (by rw [Tryz.ntmps174];simp) ?_
 rw [Tryz.ntmps174,Tryz.results174]
 cases e:eqB w p.s with
 |true=>
  have e' : (!(w.toList == p.s.toList))=false:=by rw [show (w.toList == p.s.toList)=true from e];rfl
  refine wk ?_
  exact retP rfl (by exact lw) rfl
 |false=>
  have e' : (!(w.toList == p.s.toList))=true:=by rw [show (w.toList == p.s.toList)=false from e];rfl
  refine wk ?_
  exact retP rfl (by exact lw) rfl
end Go.Proofs.YtoamkpgaaanafaaGreat

/- zone: Can. -/
namespace Go.Proofs.YtoamkpgaaanafaaGreat
set_option linter.unusedSimpArgs false
set_option linter.unusedVariables false
set_option linter.unnecessarySimpa false
open Go.RowKit
def wC (s:PSchema) (z:PSum) (m:Nat):List PV := [pint s.dims,pint s.metric,pdefs s.defs,pint z.count,pints z.box.lo,pints z.box.hi,pshells z.shells,pint z.fromLo,pint z.fromHi,pint z.toHi,pint z.bornLo,pint z.bornHi,pflds z.fields, .mref m]
def wG (s:PSchema) (z:PSum) (w m:Nat):List (Nat×List PV) := [(w,wC s z m)]
def wMs (m:Nat):List (Nat×PMap) := [(m,waysM)]
theorem wC_lowI {S:Nat→Prop} (s:PSchema) (z:PSum) {m:Nat} (h:S m):∀p∈wC s z m,LowI S p:=by
 intro p hp
 simp only [wC,List.mem_cons,List.not_mem_nil,or_false] at hp
 rcases hp with rfl|rfl|rfl|rfl|rfl|rfl|rfl|rfl|rfl|rfl|rfl|rfl|rfl|rfl
 ·exact .val _
 ·exact .val _
 ·exact ((low_pdefs _).2 trivial).lowI
 ·exact .val _
 ·exact ((low_pints _).2 trivial).lowI
 ·exact ((low_pints _).2 trivial).lowI
 ·exact ((low_pshells _).2 trivial).lowI
 ·exact .val _
 ·exact .val _
 ·exact .val _
 ·exact .val _
 ·exact .val _
 ·exact ((low_pflds _).2 trivial).lowI
 ·exact .mref _ h
theorem wG_lowI {S:Nat→Prop} (s:PSchema) (z:PSum) {w m:Nat} (h:S m):∀x∈wG s z w m,∀p∈x.2,LowI S p:=by
 intro x hx
 simp only [wG,List.mem_cons,List.not_mem_nil,or_false] at hx
 subst hx
 exact wC_lowI s z h
theorem w_givB (s:PSchema) (z:PSum):GivB (wG s z 1000001 1000002):=by unfold wG wC;(first|assumption|(repeat (first|exact givb_nil|exact ows_nil|exact dC_owns _|exact rC_owns _|refine givb_cons ?_ ?_|refine ows_cons ?_ ?_|exact owns_no rfl|exact psecs_owns _ _|assumption)))
theorem w_givM:GivM (wMs 1000002):=by
 unfold wMs waysM waysE
 refine givm_cons ?_ givm_nil
 intro e he
 simp only [List.mem_cons,List.not_mem_nil,or_false] at he
 rcases he with rfl|rfl|rfl|rfl|rfl|rfl|rfl<;>exact owns_no rfl
theorem w_ok (s:PSchema) (z:PSum) {args:List PV} {r:PV} (ha:∀p∈args,LowI (fun i=>i∈ResIds (wG s z 1000001 1000002) (wMs 1000002)) p) (hr:Low r):HOk args (wG s z 1000001 1000002) (wMs 1000002) r (wG s z 1000001 1000002) (wMs 1000002):=
 ⟨ha,wG_lowI s z (by simp [ResIds,wG,wMs]),lm_cons low_ways lm_nil,hr.lowI,wG_lowI s z (by simp [ResIds,wG,wMs]),lm_cons low_ways lm_nil,by simp,by simp⟩
def WCalls (s:PSchema) (z:PSum) (f:Nat) (args:List PV) (r:PV):Prop:=HCalls Tryz.prog f args (wG s z 1000001 1000002) (wMs 1000002) r (wG s z 1000001 1000002) (wMs 1000002)
theorem w_ret {s:PSchema} {z:PSum} {T:Tab} {rs:List ResultVar} {r:PV} {σ:PS} (h1:presult T σ rs=some r) (h3:σ.b 1000001=some (wC s z 1000002)) (h4:σ.m 1000002=some waysM):RetH T rs r (wG s z 1000001 1000002) (wMs 1000002) .ret σ:=
 RetH.mk h1 (Weak.refl _) ⟨⟨_,h3,WeakL.refl _⟩,trivial⟩ ⟨⟨rfl,h4⟩,trivial⟩
set_option maxRecDepth 10000 in
set_option maxHeartbeats 1000000 in
theorem hc_field (s:PSchema) (z:PSum) (nm:ByteArray) (h0:0≤findI s.defs nm) (h1:(findI s.defs nm).toNat < z.fields.length) (hd:s.defs.length≤1000) (hz:z.fields.length≤1000000):WCalls s z 171 [.ptr 1000001 0,pstr nm] (pfld (fieldAt s z nm)):=by
 have hl1:Low (.ep [pstr nm] 0):=by simp [low_ep,low_pstr]
 have c1:=pw_idxD 241 [.ep [pstr nm] 0] (fun d=>eqB d.name nm) s.defs rfl (by omega) (by simp [hl1]) (fun k _=>pw_fieldD nm _)
 rw [idxF_findI] at c1
 unfold fieldAt
 obtain ⟨n,hn⟩:∃n:Nat,findI s.defs nm=n:=⟨(findI s.defs nm).toNat,by omega⟩
 rw [hn] at c1 h1 ⊢
 rw [Int.toNat_natCast] at h1 ⊢
 have hp1:Low (pdefs s.defs):=(low_pdefs _).2 trivial
 have hp2:Low (pshells z.shells):=(low_pshells _).2 trivial
 have hp3:Low (pflds z.fields):=(low_pflds _).2 trivial
 have hlw:=low_ways
 have hlz:=low_pfldL ⟨0,0,0,[]⟩
 have hlk:=low_pfldL (z.fields.getD n default)
 unfold WCalls
 refine hcalls_of_pw typeTab_ok Tryz.func171 rfl (by kernel_rfl) (by simp [pstr,PV.ownB]) (by rw [Tryz.ntmps171];simp) (by simp [ResIds,wG,wMs]) (by simp [ResIds,wG,wMs]) (w_ok s z (li_cons (.ptr _ _ (by simp [ResIds,wG,wMs])) (li_cons (.val _) li_nil)) ((low_pfld _).2 trivial)) ?_ (w_givB s z) w_givM
 rw [Tryz.ntmps171,Tryz.results171]
 refine PW.seq ?_
 refine PW.region typeTab_ok (by kernel_rfl) ?_
 refine wg ?_
 refine PW.freezeP (id:=0) (s:=3) (off:=0) (σ':=(bot.setb 1000001 (wC s z 1000002) |>.setb 1 [pint 0,pint 0,pint 0, .nilsl] |>.setm 1000002 waysM |>.put 0 (.ptr 1000001 0) |>.put 4 (.ptr 1 0))) rfl rfl (fun c hc=>by simp only [List.mem_cons,List.not_mem_nil,or_false] at hc;subst hc;exact .val _) (by exact sbr0) rfl ?_
 refine wk ?_
 exact w_ret rfl rfl rfl
set_option maxRecDepth 10000 in
set_option maxHeartbeats 1000000 in
theorem hc_all (s:PSchema) (z:PSum) (p:PPred) (hl:p.subs.length≤1000000) (h:∀k,k < p.subs.length→WCalls s z 85 [.ptr 1000001 0,ppred (p.subs.getD k default)] (ptruth (canZ s z (p.subs.getD k default)))):WCalls s z 166 [.ptr 1000001 0,ppred p] (ptruths (p.subs.map (canZ s z))):=by
 have hp1:Low (pdefs s.defs):=(low_pdefs _).2 trivial
 have hp2:Low (pshells z.shells):=(low_pshells _).2 trivial
 have hp3:Low (pflds z.fields):=(low_pflds _).2 trivial
 have hlw:=low_ways
 have hps:Low (ppreds p.subs):=(low_ppreds _).2 trivial
 unfold WCalls at *
 refine hcalls_of_pw typeTab_ok Tryz.func166 rfl (by kernel_rfl) (by simp [ppred,PV.ownB]) (by rw [Tryz.ntmps166];simp) (by simp [ResIds,wG,wMs]) (by simp [ResIds,wG,wMs]) (w_ok s z (li_cons (.ptr _ _ (by simp [ResIds,wG,wMs])) (li_cons ((low_ppred p).2 trivial).lowI li_nil)) ((low_ptruths _).2 trivial)) ?_ (w_givB s z) w_givM
 rw [Tryz.ntmps166,Tryz.results166]
 unfold ppred
 rw [prL_eq]
 refine wk ?_
 refine PW.loop (fun k:Nat=>(bot.setb 1000001 (wC s z 1000002) |>.setm 1000002 waysM |>.put 0 (.ptr 1000001 0) |>.put 5 (.sl k 2 (((p.subs.take k).map (canZ s z)).flatMap truthL) (some 134)) |>.put 9 (ppreds p.subs) |>.put 10 (pint p.subs.length) |>.put 11 (pint k))) (fun k=>k≤p.subs.length) (fun k=>p.subs.length - k) 0 (by omega) ?_ ?_
 ·exact sb
 intro k hk
 by_cases hlt:k < p.subs.length
 ·have h1:=h k hlt
  unfold ppred at h1
  have hlk:=low_prL (p.subs.getD k default)
  have e:((p.subs.take (k+1)).map (canZ s z)).flatMap truthL=((p.subs.take k).map (canZ s z)).flatMap truthL ++ truthL (canZ s z (p.subs.getD k default)):=by
   rw [List.take_add_one,List.getElem?_eq_getElem hlt,Option.toList_some,List.map_append,List.flatMap_append]
   simp only [List.map_cons,List.map_nil,List.flatMap_cons,List.flatMap_nil,List.append_nil]
   rw [List.getD_eq_getElem?_getD,List.getElem?_eq_getElem hlt];rfl
  generalize canZ s z (p.subs.getD k default)=t at *
  unfold ptruth at h1
  refine wk ?_
  refine loopP (k+1) (by omega) (by omega) ?_
  have hll:Low (.sl (k+1) 2 (((p.subs.take k).map (canZ s z)).flatMap truthL ++ truthL t) (some 134)):=.sl _ _ _ _ fun c hc=>by
   have h2:∀(l:List PTruth),∀c∈l.flatMap truthL,Low c:=fun l c hc=>by
    obtain ⟨x,-,hx⟩:=List.mem_flatMap.1 hc
    simp only [truthL,List.mem_cons,List.not_mem_nil,or_false] at hx
    rcases hx with rfl|rfl<;>exact .val _
   rcases List.mem_append.1 hc with h3|h3
   ·exact h2 _ c h3
   ·exact h2 [t] c (by simpa using h3)
  simp only [e]
  exact sb
 ·have hkk:k=p.subs.length:=by omega
  subst hkk
  simp only [List.take_length]
  refine wk ?_
  refine w_ret (r:=ptruths (p.subs.map (canZ s z))) ?_ rfl rfl
  unfold ptruths
  rw [List.length_map]
  rfl
end Go.Proofs.YtoamkpgaaanafaaGreat
