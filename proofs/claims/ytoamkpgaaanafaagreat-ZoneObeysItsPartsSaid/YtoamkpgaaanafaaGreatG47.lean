/- Out of: Wi. -/
import Derived.Test.YtoamkpgaaanafaaGreatRows
import Derived.WalkKit
import Derived.WalkSpells
import Derived.WalkLawsBesides
import Derived.Deep.QuietTactic
import Derived.BigQuiet
import Derived.RegionTactic
import Derived.Lib.AppendZeros
import Derived.Lib.AppendStr
import Derived.Lib.Hide
import Derived.OrdersIn
import Derived.Laws.BytesString
import Derived.WideLaws
import Derived.RangeFuncRecord
import Derived.Orders
import GoSem.Step
import Derived.Laws.RangeAny
import Derived.Lib.OthersKept
import Derived.Outline
import Derived.Laws.EntriesVeiled
import Derived.KernelRfl
import Derived.StillTailTactics
import Derived.Deep.Cut
import Derived.RangeFuncCalls
import Derived.Lib.BitFns
import Derived.Test.YtoamkpgaaanafaaGreatShelf
import Derived.Test.YtoamkpgaaanafaaGreatIter
import Derived.Laws.Strings
import Derived.Test.YtoamkpgaaanafaaGreatG1
import Derived.Test.YtoamkpgaaanafaaGreatG3
import Derived.Test.YtoamkpgaaanafaaGreatG6
import Derived.Test.YtoamkpgaaanafaaGreatG7
import Derived.Test.YtoamkpgaaanafaaGreatG8
import Derived.Test.YtoamkpgaaanafaaGreatG9
import Derived.Test.YtoamkpgaaanafaaGreatG10
import Derived.Test.YtoamkpgaaanafaaGreatG11
import Derived.Test.YtoamkpgaaanafaaGreatG12
import Derived.Test.YtoamkpgaaanafaaGreatG14
import Derived.Test.YtoamkpgaaanafaaGreatG15
import Derived.Test.YtoamkpgaaanafaaGreatG17
import Derived.Test.YtoamkpgaaanafaaGreatG18
import Derived.Test.YtoamkpgaaanafaaGreatG21
import Derived.Test.YtoamkpgaaanafaaGreatG23
import Derived.Test.YtoamkpgaaanafaaGreatG24
import Derived.Test.YtoamkpgaaanafaaGreatG27
import Derived.Test.YtoamkpgaaanafaaGreatG29
import Derived.Test.YtoamkpgaaanafaaGreatG30
import Derived.Test.YtoamkpgaaanafaaGreatG32
import Derived.Test.YtoamkpgaaanafaaGreatG34
import Derived.Test.YtoamkpgaaanafaaGreatG37
import Derived.Test.YtoamkpgaaanafaaGreatG38
import Derived.Test.YtoamkpgaaanafaaGreatG41
import Derived.Test.YtoamkpgaaanafaaGreatG43
import Derived.Test.YtoamkpgaaanafaaGreatG44
import Derived.Test.YtoamkpgaaanafaaGreatG45
namespace Go.Proofs.YtoamkpgaaanafaaGreat
set_option linter.unusedSimpArgs false
set_option linter.unusedVariables false
set_option linter.unnecessarySimpa false
section
open Go.RowKit
set_option maxRecDepth 10000 in
set_option maxHeartbeats 8000000 in
theorem pw_lParts (s:PSchema) (pv:List (List Int)) (z:PSum) (e:PEntry) (hl:s.defs.length≤20000000000000) (hw:∀d∈s.defs,d.words.length≤20000000000000) (hp:pv.length≤20000000000000) (hE:e.attrs.length≤20000000000000∧e.vec.length≤20000000000000)
  (bz:z.box.lo.length≤20000000000000∧z.box.hi.length≤20000000000000∧z.shells.length≤20000000000000∧z.fields.length≤20000000000000∧∀f∈z.fields,f.words.length≤20000000000000) :
  PCalls Tryz.prog 5 [pschema s,pvecs pv,psum z,pentry e] (· = pbool true):=by
 obtain ⟨a1,a2,a3,a4,a5⟩:=bz
 have k0:=pw_sanity
 have k1:=pw_lsmall s pv hl hw hp
 have k2:=pw_rFew z a1 a2 a3 a4 a5
 have k3:=pw_few e hE.1 hE.2
 have hls:=low_schCells s
 have hlz:=low_psumL z
 have hle:=low_entCells e
 have hlp:Low (pvecs pv):=(low_pvecs pv).2 trivial
 refine pcalls_of_pw typeTab_ok Tryz.func5 rfl (by kernel_rfl) (by simp [low_pint,low_pints,low_pstr,low_pbool,low_pbox,low_pvecs,low_pentry,low_pentries,low_psum,low_pschema,low_pshells,low_pstrs,low_pfld,low_pdef]) (by simp [pint,pints,pstr,pbool,pbox,pvecs,pentry,pentries,psum,psumL,pschema,pshells,pstrs,pfld,pfldL,pdefL,PV.ownB]) (by rw [Tryz.ntmps5];simp) ?_
 rw [Tryz.ntmps5,Tryz.results5]
 cases e1:(fewDefs6B s && few9 pv 9) with
 |false=>
  rw [e1] at k1
  clear k2 k3
  refine wk ?_
  exact retP (r:=pbool true) rfl (by exact lw) rfl
 |true=>
 rw [e1] at k1
 rw [Bool.and_eq_true] at e1
 have hS:SmallS s:=(fewDefs6B_few e1.1).small
 have hd6:=fewDefs6_len e1.1
 obtain ⟨p1,p2⟩:=few9_get e1.2
 have hpv:∀v∈pv,v.length≤1000000:=fun v hv=>by have:=p2 v hv;omega
 have k4:=pw_lright s pv hS (by omega) hpv
 cases e2:(decide (checkE s=0) && pivS s pv) with
 |false=>
  rw [e2] at k4
  clear k2 k3
  refine wk ?_
  exact retP (r:=pbool true) rfl (by exact lw) rfl
 |true=>
 rw [e2] at k4
 rw [Bool.and_eq_true,decide_eq_true_eq] at e2
 obtain ⟨hc,hpS⟩:=e2
 obtain ⟨pq,pp⟩:=pivS_get hpS
 have hm:=(checkE_met hc).1
 cases e3:fewZ z with
 |false=>
  rw [e3] at k2
  clear k3
  refine wk ?_
  exact retP (r:=pbool true) rfl (by exact lw) rfl
 |true=>
 rw [e3] at k2
 cases e4:fewB e with
 |false=>
  rw [e4] at k3
  refine wk ?_
  exact retP (r:=pbool true) rfl (by exact lw) rfl
 |true=>
 rw [e4] at k3
 have hev:e.vec.length≤40∧e.attrs.length≤20:=by
  simp only [fewB,Bool.and_eq_true,decide_eq_true_eq] at e4
  exact e4.2
 have hdw:∀k,(s.defs.getD k default).words.length≤1000000:=fun k=>by
  rcases Nat.lt_or_ge k s.defs.length with hk|hk
  ·have:=((fewDefs6B_few e1.1).2 _ (getD_mem hk)).1
   omega
  ·rw [List.getD_eq_getElem?_getD,List.getElem?_eq_none hk]
   exact (by decide:(0:Nat)≤1000000)
 have k5:=pw_rValid s pv.length z (fewZ_small e3) (by omega) hdw
 cases e5:sumB s pv.length z with
 |false=>
  rw [e5] at k5
  refine wk ?_
  exact retP (r:=pbool true) rfl (by exact lw) rfl
 |true=>
 rw [e5] at k5
 have vz:=sumV_of e5
 have k6:=pw_obeys s pv z e (fewZ_small e3) hS (by omega) (by omega) hm (by omega) pp (entry_right hc) (by rw [vz.len];omega)
 cases e6:obeysZ s pv z e with
 |false=>
  rw [e6] at k6
  refine wk ?_
  exact retP (r:=pbool true) rfl (by exact lw) rfl
 |true=>
 rw [e6] at k6
 have hO:=obeyZ_of e6
 obtain ⟨v1,v2⟩:=entry_right hc hO.ent
 have k7:=pcEntry s e hS (by omega) (by omega)
 rw [hO.ent] at k7
 have k8:=pw_r9Keys s.metric pv e.vec hm (by omega) (fun k hk=>by obtain ⟨q1,q2⟩:=pp k hk;exact ⟨q1,by omega⟩) v1
 have hkl:=keysP_len s.metric pv e.vec
 have k9:=pw_shIn z.shells (keysP s.metric pv e.vec) (by have:=hO.num;omega) (by omega)
 rw [obey_in vz hO] at k9
 have k10:=pw_zBound s z e.vec (keysP s.metric pv e.vec) (fewZ_small e3) (by omega) (by omega)
 rw [obey_bound hm v1 (fun k hk=>(pp k hk).1) vz hO] at k10
 simp only at k10
 generalize keysP s.metric pv e.vec=ks at *
 have hlk:Low (pints ks):=(low_pints ks).2 trivial
 refine wk ?_
 clear k1 k2 k3 k4 k5 k6 k7 k8 k9 k10
 have hW:SmallW s z:=⟨by omega,by rw [vz.len];omega,by rw [vz.len];omega,(fewZ_small e3).2.2.2.2⟩
 refine PW.loop (fun k:Nat=>(bot.setb 0 (schCellsP s) |>.setb 1 (psumL z) |>.setb 2 (entCellsP e) |>.put 4 (.ptr 0 0) |>.put 6 (.ptr 1 0) |>.put 7 (.ptr 2 0) |>.put 11 (pint k))) (fun k=>k≤s.defs.length) (fun k=>s.defs.length - k) 0 (by omega) ?_ ?_
 ·exact sb
 intro k hk
 by_cases hlt:k < s.defs.length
 ·have hd:=low_pdefL (s.defs.getD k default)
  have c1:=pcGet e.attrs (s.defs.getD k default).name (by omega)
  have hfi:=(fieldAt_def (z:=z) hc hlt).1
  have hat:=low_pattrL2 (getA e.attrs (s.defs.getD k default).name).1
  cases q0:(getA e.attrs (s.defs.getD k default).name).2 with
  |false=>
   rw [q0] at c1
   have c2:=canRaw hW (p:=.mk 5 (s.defs.getD k default).name 0 0 ByteArray.empty []) rfl (okP_one (by decide) (by decide) (by omega))
   rw [obey_can5 hc hlt vz hO q0] at c2
   generalize (canZ s z (.mk 5 (s.defs.getD k default).name 0 0 ByteArray.empty [])).yes=w at *
   unfold prRaw at c2
   simp only [PPred.op,PPred.name,PPred.n,PPred.m,PPred.s] at c2
   refine wk ?_
   refine loopP (k+1) (by omega) (by omega) ?_
   exact sb
  |true=>
   rw [q0] at c1
   have hnm:(getA e.attrs (s.defs.getD k default).name).1.name=(s.defs.getD k default).name:=by
    have:=(getA_found q0).2
    exact toList_inj (by simpa [eqB] using this)
   by_cases q1:(s.defs.getD k default).kind=1
   ·have c2:=canRaw hW (p:=.mk 6 (getA e.attrs (s.defs.getD k default).name).1.name (getA e.attrs (s.defs.getD k default).name).1.n (getA e.attrs (s.defs.getD k default).name).1.n ByteArray.empty []) rfl (okP_one (by decide) (by decide) (by rw [hnm];omega))
    have hy:=obey_can6 hc hlt vz hO q0 q1
    have hy2:(canZ s z (.mk 6 (getA e.attrs (s.defs.getD k default).name).1.name (getA e.attrs (s.defs.getD k default).name).1.n (getA e.attrs (s.defs.getD k default).name).1.n ByteArray.empty [])).yes=true:=by rw [hnm];exact hy
    rw [hy2] at c2
    generalize (canZ s z (.mk 6 (getA e.attrs (s.defs.getD k default).name).1.name (getA e.attrs (s.defs.getD k default).name).1.n (getA e.attrs (s.defs.getD k default).name).1.n ByteArray.empty [])).no=w at *
    clear hnm hy hy2
    unfold prRaw at c2
    simp only [PPred.op,PPred.name,PPred.n,PPred.m,PPred.s] at c2
    refine wk ?_
    refine loopP (k+1) (by omega) (by omega) ?_
    exact sb
   ·have q2:(s.defs.getD k default).kind=2:=by
     rcases ((checkE_ok hc).one _ (getD_mem hlt)).2.1 with h|h
     ·exact absurd h q1
     ·exact h
    have hy:=obey_can7 hc hlt vz hO q0 q2
    have c2:=canRaw hW (p:=.mk 7 (getA e.attrs (s.defs.getD k default).name).1.name 0 0 (getA e.attrs (s.defs.getD k default).name).1.s []) rfl (okP_one (by decide) (by decide) (by rw [hnm];omega))
    have hy2:(canZ s z (.mk 7 (getA e.attrs (s.defs.getD k default).name).1.name 0 0 (getA e.attrs (s.defs.getD k default).name).1.s [])).yes=true:=by rw [hnm];exact hy
    rw [hy2] at c2
    generalize (canZ s z (.mk 7 (getA e.attrs (s.defs.getD k default).name).1.name 0 0 (getA e.attrs (s.defs.getD k default).name).1.s [])).no=w at *
    clear hnm hy hy2
    unfold prRaw at c2
    simp only [PPred.op,PPred.name,PPred.n,PPred.m,PPred.s] at c2
    refine wk ?_
    refine loopP (k+1) (by omega) (by omega) ?_
    exact sb
 ·refine wk ?_
  exact retP (r:=pbool true) rfl (by exact lw) rfl
end
end Go.Proofs.YtoamkpgaaanafaaGreat
