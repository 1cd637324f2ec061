/- Out of: Wq. -/
import Derived.Test.YtoamkpgaaanafaaGreatRows
import Derived.WalkKit
import Derived.WalkSpells
import Derived.WalkLawsBesides
import Derived.Deep.QuietTactic
import Derived.BigQuiet
import Derived.RegionTactic
import Derived.Lib.AppendZeros
import Derived.Lib.AppendStr
import Derived.Lib.Hide
import Derived.OrdersIn
import Derived.Laws.BytesString
import Derived.WideLaws
import Derived.RangeFuncRecord
import Derived.Orders
import GoSem.Step
import Derived.Laws.RangeAny
import Derived.Lib.OthersKept
import Derived.Outline
import Derived.Laws.EntriesVeiled
import Derived.KernelRfl
import Derived.StillTailTactics
import Derived.Deep.Cut
import Derived.RangeFuncCalls
import Derived.Lib.BitFns
import Derived.Test.YtoamkpgaaanafaaGreatShelf
import Derived.Test.YtoamkpgaaanafaaGreatIter
import Derived.Laws.Strings
import Derived.Test.YtoamkpgaaanafaaGreatG1
import Derived.Test.YtoamkpgaaanafaaGreatG10
import Derived.Test.YtoamkpgaaanafaaGreatG11
import Derived.Test.YtoamkpgaaanafaaGreatG12
import Derived.Test.YtoamkpgaaanafaaGreatG14
import Derived.Test.YtoamkpgaaanafaaGreatG15
import Derived.Test.YtoamkpgaaanafaaGreatG17
import Derived.Test.YtoamkpgaaanafaaGreatG21
import Derived.Test.YtoamkpgaaanafaaGreatG23
import Derived.Test.YtoamkpgaaanafaaGreatG24
import Derived.Test.YtoamkpgaaanafaaGreatG29
import Derived.Test.YtoamkpgaaanafaaGreatG3
import Derived.Test.YtoamkpgaaanafaaGreatG37
import Derived.Test.YtoamkpgaaanafaaGreatG38
import Derived.Test.YtoamkpgaaanafaaGreatG41
import Derived.Test.YtoamkpgaaanafaaGreatG43
import Derived.Test.YtoamkpgaaanafaaGreatG45
import Derived.Test.YtoamkpgaaanafaaGreatG6
import Derived.Test.YtoamkpgaaanafaaGreatG7
import Derived.Test.YtoamkpgaaanafaaGreatG8
import Derived.Test.YtoamkpgaaanafaaGreatH6
import Derived.Test.YtoamkpgaaanafaaGreatH9
import Derived.Test.YtoamkpgaaanafaaGreatH10
import Derived.Test.YtoamkpgaaanafaaGreatH11
namespace Go.Proofs.YtoamkpgaaanafaaGreat
set_option linter.unusedSimpArgs false
set_option linter.unusedVariables false
set_option linter.unnecessarySimpa false
section
open Go.RowKit
set_option maxRecDepth 10000 in
set_option maxHeartbeats 8000000 in
theorem pw_lWeighs (s:PSchema) (z:PSum) (v ks:List Int) (p:PPred) (a:PSnap) (hl:s.defs.length≤20000000000000) (hw:∀d∈s.defs,d.words.length≤20000000000000) (hv:v.length≤20000000000000) (hks:ks.length≤20000000000000)
  (bz:z.box.lo.length≤20000000000000∧z.box.hi.length≤20000000000000∧z.shells.length≤20000000000000∧z.fields.length≤20000000000000∧∀f∈z.fields,f.words.length≤20000000000000) (hpl:lenP p) :
  PCalls Tryz.prog 4 [pschema s,psum z,pints v,pints ks,ppred p,psnap a] (· = pbool true):=by
 obtain ⟨a1,a2,a3,a4,a5⟩:=bz
 have k0:=pw_sanity
 have k1:PCalls Tryz.prog 11 [pschema s, .nilsl] (· = pbool (fewDefs6B s)):=by
  have:=pw_lsmall s [] hl hw (by simp)
  rw [show few9 [] 9=true by decide,Bool.and_true] at this
  exact this.weakA (.cons (.refl _) (.cons (.nil 1) .nil))
 have k3:=pw_rFew z a1 a2 a3 a4 a5
 have hls:=low_schCells s
 have hlz:=low_psumL z
 have hlp:=low_prL p
 refine pcalls_of_pw typeTab_ok Tryz.func4 rfl (by kernel_rfl) (by simp [low_pint,low_pints,low_pstr,low_pbool,low_pbox,low_pvecs,low_pentry,low_pentries,low_psum,low_pschema,low_pshells,low_pstrs,low_pfld,low_pdef,low_ppred,low_psnap]) (by simp [pint,pints,pstr,pbool,pbox,pvecs,pentry,pentries,psum,psumL,pschema,pshells,pstrs,pfld,pfldL,pdefL,PV.ownB,ppred,psnap]) (by rw [Tryz.ntmps4];simp) ?_
 rw [Tryz.ntmps4,Tryz.results4]
 cases e1:fewDefs6B s with
 |false=>
  rw [e1] at k1
  clear k3
  refine wk ?_
  exact retP (r:=pbool true) rfl (by exact lw) rfl
 |true=>
 rw [e1] at k1
 have hS:SmallS s:=(fewDefs6B_few e1).small
 have hd6:=fewDefs6_len e1
 have k2:PCalls Tryz.prog 24 [pschema s, .nilsl] (· = pbool (decide (checkE s=0) && pivS s [])):=
  (pw_lright s [] hS (by simp) (by simp)).weakA (.cons (.refl _) (.cons (.nil 1) .nil))
 cases e2:(decide (checkE s=0) && pivS s []) with
 |false=>
  rw [e2] at k2
  clear k3
  refine wk ?_
  exact retP (r:=pbool true) rfl (by exact lw) rfl
 |true=>
 rw [e2] at k2
 cases e3:fewZ z with
 |false=>
  rw [e3] at k3
  refine wk ?_
  exact retP (r:=pbool true) rfl (by exact lw) rfl
 |true=>
 rw [e3] at k3
 have hdw:∀k,(s.defs.getD k default).words.length≤1000000:=fun k=>by
  rcases Nat.lt_or_ge k s.defs.length with hk|hk
  ·have:=((fewDefs6B_few e1).2 _ (getD_mem hk)).1
   omega
  ·rw [List.getD_eq_getElem?_getD,List.getElem?_eq_none hk]
   exact (by decide:(0:Nat)≤1000000)
 have k5:=pw_rValid s z.shells.length z (fewZ_small e3) (by omega) hdw
 cases e5:sumB s z.shells.length z with
 |false=>
  rw [e5] at k5
  refine wk ?_
  exact retP (r:=pbool true) rfl (by exact lw) rfl
 |true=>
 rw [e5] at k5
 have vz:=sumV_of e5
 by_cases q1:v.length > 40
 ·refine wk ?_
  exact retP (r:=pbool true) rfl (by exact lw) rfl
 by_cases q2:ks.length > 12
 ·refine wk ?_
  exact retP (r:=pbool true) rfl (by exact lw) rfl
 have k6:=pw_zBound s z v ks (fewZ_small e3) (by omega) (by omega)
 have k7:=pw_rBound s z v ks (fewZ_small e3) (by omega) (by omega)
 have k8:=pw_zSeen z a
 have k9:=pw_rSeen z a
 have k10:=pw_fewP p 8 (by omega) hpl
 have k11:=pw_checkP s p hpl (by omega)
 have hW:SmallW s z:=⟨by omega,by rw [vz.len];omega,by rw [vz.len];omega,(fewZ_small e3).2.2.2.2⟩
 have hC:checkP s p=0→PCalls Tryz.prog 31 [pschema s,psum z,ppred p] (· = .tup [pbool (canZ s z p).yes,pbool (canZ s z p).no])∧PCalls Tryz.prog 32 [pschema s,psum z,ppred p] (· = ptruth (canZ s z p)):=fun h=>by
  obtain ⟨h1,h2⟩:=check_ok h
  exact ⟨pw_can hW p h1,pw_rCan hW vz p h1 h2⟩
 generalize zBound s z v ks=B at *
 obtain ⟨x,y⟩:=B
 have hx:(!(x == x))=false:=by simp
 have hy:(!(y == y))=false:=by simp
 have hw2:∀w:Bool,(w == w)=true:=by simp
 have hww:(!(zSeen z a == zSeen z a))=false:=by simp
 generalize zSeen z a=w at *
 generalize checkP s p=c at *
 simp only at k6 k7
 clear e1 e2 e3 e5 hdw hd6 hS hW vz a5 hw
 unfold ppred at *
 cases q3:fewPB p 8 with
 |false=>
  rw [q3] at k10
  clear k11 hC
  refine wk ?_
  exact retP (r:=pbool true) rfl (by exact lw) rfl
 |true=>
 rw [q3] at k10
 by_cases q4:c=0
 ·obtain ⟨k12,k13⟩:=hC q4
  clear hC
  generalize canZ s z p=t at *
  obtain ⟨ty,tn⟩:=t
  have h1:=hw2 ty
  have h2:=hw2 tn
  clear hw2
  unfold ptruth truthL at k13
  simp only at k12 k13
  refine wk ?_
  exact retP (r:=pbool true) rfl (by exact lw) rfl
 ·clear hC
  refine wk ?_
  exact retP (r:=pbool true) rfl (by exact lw) rfl
end
end Go.Proofs.YtoamkpgaaanafaaGreat
