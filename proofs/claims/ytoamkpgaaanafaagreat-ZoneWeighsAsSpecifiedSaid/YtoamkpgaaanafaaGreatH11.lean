/- Out of: Wo. -/
import Derived.Test.YtoamkpgaaanafaaGreatRows
import Derived.WalkKit
import Derived.WalkSpells
import Derived.WalkLawsBesides
import Derived.Deep.QuietTactic
import Derived.BigQuiet
import Derived.RegionTactic
import Derived.Lib.AppendZeros
import Derived.Lib.AppendStr
import Derived.Lib.Hide
import Derived.OrdersIn
import Derived.Laws.BytesString
import Derived.WideLaws
import Derived.RangeFuncRecord
import Derived.Orders
import GoSem.Step
import Derived.Laws.RangeAny
import Derived.Lib.OthersKept
import Derived.Outline
import Derived.Laws.EntriesVeiled
import Derived.KernelRfl
import Derived.StillTailTactics
import Derived.Deep.Cut
import Derived.RangeFuncCalls
import Derived.Lib.BitFns
import Derived.Test.YtoamkpgaaanafaaGreatShelf
import Derived.Test.YtoamkpgaaanafaaGreatIter
import Derived.Laws.Strings
import Derived.Test.YtoamkpgaaanafaaGreatG1
import Derived.Test.YtoamkpgaaanafaaGreatG10
import Derived.Test.YtoamkpgaaanafaaGreatG11
import Derived.Test.YtoamkpgaaanafaaGreatG12
import Derived.Test.YtoamkpgaaanafaaGreatG14
import Derived.Test.YtoamkpgaaanafaaGreatG15
import Derived.Test.YtoamkpgaaanafaaGreatG17
import Derived.Test.YtoamkpgaaanafaaGreatG18
import Derived.Test.YtoamkpgaaanafaaGreatG21
import Derived.Test.YtoamkpgaaanafaaGreatG3
import Derived.Test.YtoamkpgaaanafaaGreatG32
import Derived.Test.YtoamkpgaaanafaaGreatG34
import Derived.Test.YtoamkpgaaanafaaGreatG35
import Derived.Test.YtoamkpgaaanafaaGreatG37
import Derived.Test.YtoamkpgaaanafaaGreatG41
import Derived.Test.YtoamkpgaaanafaaGreatG6
import Derived.Test.YtoamkpgaaanafaaGreatG7
import Derived.Test.YtoamkpgaaanafaaGreatG8
import Derived.Test.YtoamkpgaaanafaaGreatG9
import Derived.Test.YtoamkpgaaanafaaGreatH3
import Derived.Test.YtoamkpgaaanafaaGreatH6
import Derived.Test.YtoamkpgaaanafaaGreatH9
namespace Go.Proofs.YtoamkpgaaanafaaGreat
set_option linter.unusedSimpArgs false
set_option linter.unusedVariables false
set_option linter.unnecessarySimpa false
section
open Go.RowKit
variable {s:PSchema} {z:PSum}
theorem canZ_1 {p:PPred} (h:p.op=1):canZ s z p=⟨true,false⟩:=by
 cases p with
 |mk op nm n m w subs=>
  have h:op=1:=h
  rw [canZ,if_pos h]
theorem canZ_2 {p:PPred} (h:p.op=2):canZ s z p=⟨!p.subs.any (fun q => !(canZ s z q).yes),p.subs.any (fun q=>(canZ s z q).no)⟩:=by
 cases p with
 |mk op nm n m w subs=>
  have h:op=2:=h
  subst h
  rw [canZ,if_neg (by decide),if_pos rfl,canL_eq,List.any_map,List.any_map];rfl
theorem canZ_3 {p:PPred} (h:p.op=3):canZ s z p=⟨p.subs.any (fun q=>(canZ s z q).yes),!p.subs.any (fun q => !(canZ s z q).no)⟩:=by
 cases p with
 |mk op nm n m w subs=>
  have h:op=3:=h
  subst h
  rw [canZ,if_neg (by decide),if_neg (by decide),if_pos rfl,canL_eq,List.any_map,List.any_map];rfl
theorem canZ_4 {p:PPred} (h:p.op=4) (h0:0 < p.subs.length):canZ s z p=⟨(canZ s z (p.subs.getD 0 default)).no,(canZ s z (p.subs.getD 0 default)).yes⟩:=by
 cases p with
 |mk op nm n m w subs=>
  have h:op=4:=h
  subst h
  have h0:0 < subs.length:=h0
  have e:(canL s z subs).getD 0 default=canZ s z (subs.getD 0 default):=by
   rw [canL_eq];simp [List.getD_eq_getElem?_getD,h0]
  rw [canZ,if_neg (by decide),if_neg (by decide),if_neg (by decide),if_pos rfl,e];rfl
def leafR (f:PField) (count op n m:Int) (w:ByteArray):PTruth:=
 if op=5∨f.has=0 then ⟨decide (f.has > 0),decide (f.has < count)⟩
 else if op=6 then ⟨decide (mxI f.lo n≤mnI f.hi m),decide (f.has < count) || (decide (f.lo < n) || decide (f.hi > m))⟩
 else ⟨hasB f.words w,decide (f.has < count) || (decide (1 < f.words.length) || !hasB f.words w)⟩
theorem canZ_5 {n:Int} (hz:SumV s n z) {p:PPred} (h5:5≤p.op) (hp:okP s p) (hk:okK s p):canZ s z p=leafR (fieldAt s z p.name) z.count p.op p.n p.m p.s:=by
 cases p with
 |mk op nm n m w subs=>
  rw [okP] at hp
  rw [okK] at hk
  obtain ⟨h1,-,h3,-,-⟩:=hp
  have k1:=hk.1
  simp only [PPred.op,PPred.name,PPred.n,PPred.m,PPred.s] at h5 ⊢
  obtain ⟨d,hd⟩:=findI_get (h3 h5)
  have hlt:=(List.getElem?_eq_some_iff.1 hd).1
  have hb:=hz.field _ hlt
  obtain ⟨o1,o2,-⟩:=fieldB_ok hb
  have o3:=o1.has
  have o4:=fieldB_more hb
  have o5:=o1.none
  have o6:=o1.asc
  have hc:=hz.count
  rw [canZ]
  unfold fieldAt leafR
  generalize z.fields.getD (findI s.defs nm).toNat default=f at *
  rcases (show op=5∨op=6∨op=7 by omega) with rfl|rfl|rfl
  ·rw [if_neg (by decide),if_neg (by decide),if_neg (by decide),if_neg (by decide),if_pos rfl,if_pos (.inl rfl)]
  ·rw [if_neg (by decide),if_neg (by decide),if_neg (by decide),if_neg (by decide),if_neg (by decide),if_pos rfl]
   by_cases q:f.has=0
   ·rw [if_pos q,if_pos (.inr q),q]
    have:(0:Int) < z.count:=by omega
    simp [this]
   ·rw [if_neg q,if_neg (by simp [q]),if_pos rfl,mxI_eq,mnI_eq]
  ·rw [if_neg (by decide),if_neg (by decide),if_neg (by decide),if_neg (by decide),if_neg (by decide),if_neg (by decide)]
   by_cases q:f.has=0
   ·obtain ⟨-,-,hw⟩:=o5 q
    rw [if_pos (.inr q),q,hw]
    have:(0:Int) < z.count:=by omega
    simp [this,hasB]
   ·rw [if_neg (by simp [q]),if_neg (by decide),other_word ((o4 (by omega)).2 (by rw [k1 rfl];decide)) o6]
end
section
open Go.RowKit
set_option maxRecDepth 10000 in
set_option maxHeartbeats 8000000 in
theorem pw_rCanW {s:PSchema} {z:PSum} {n:Int} (hs:SmallW s z) (hv:SumV s n z) (p:PPred) (hp:okP s p) (hk:okK s p) (hl:p.subs.length≤1000000) (h4:p.op=4→0 < p.subs.length) (h7:1≤p.op∧p.op≤7) (h5:5≤p.op→0≤findI s.defs p.name)
  (h:∀k,k < p.subs.length→PCalls Tryz.prog 32 [pschema s,psum z,ppred (p.subs.getD k default)] (· = ptruth (canZ s z (p.subs.getD k default)))) :
  PCalls Tryz.prog 32 [pschema s,psum z,ppred p] (· = ptruth (canZ s z p)):=by
 have hls:=low_schCells s
 have hlz:=low_psumL z
 have hlp:=low_prL p
 have hps:Low (ppreds p.subs):=(low_ppreds _).2 trivial
 have hl2:∀a b:Bool,∀c ∈ [pbool a,pbool b],Low c:=fun a b c hc=>by
  simp only [List.mem_cons,List.not_mem_nil,or_false] at hc
  rcases hc with rfl|rfl<;>exact .val _
 refine pcalls_of_pw typeTab_ok Tryz.func32 rfl (by kernel_rfl) (by simp [low_pint,low_pints,low_pstr,low_pbool,low_pbox,low_pvecs,low_pentry,low_pentries,low_psum,low_pschema,low_pshells,low_pstrs,low_pfld,low_pdef,low_ppred,low_ptruth]) (by simp [pint,pints,pstr,pbool,pbox,pvecs,pentry,pentries,psum,psumL,pschema,pshells,pstrs,pfld,pfldL,pdefL,PV.ownB,ppred,ptruth]) (by rw [Tryz.ntmps32];simp) ?_
 rw [Tryz.ntmps32,Tryz.results32]
 rcases (show p.op=1∨p.op=4∨p.op=2∨p.op=3∨5≤p.op by omega) with ho|ho|ho|ho|ho
 ·rw [canZ_1 ho]
  unfold ppred
  rw [prL_eq]
  refine wk ?_
  exact retP (r:=ptruth ⟨true,false⟩) rfl (low_ptruth _) rfl
 ·have h0:=h4 ho
  have h1:=h 0 h0
  rw [canZ_4 ho h0]
  have hlk:=low_prL (p.subs.getD 0 default)
  generalize canZ s z (p.subs.getD 0 default)=t at *
  unfold ppred ptruth truthL at *
  rw [show prL p = [pint p.op,pstr p.name,pint p.n,pint p.m,pstr p.s,ppreds p.subs] from prL_eq p]
  refine wk ?_
  exact retP (r:=ptruth ⟨t.no,t.yes⟩) rfl (low_ptruth _) rfl
 ·rw [canZ_2 ho]
  unfold ppred at *
  rw [show prL p = [pint p.op,pstr p.name,pint p.n,pint p.m,pstr p.s,ppreds p.subs] from prL_eq p] at *
  refine wk ?_
  refine PW.loop (fun k:Nat=>(bot.setb 0 (schCellsP s) |>.setb 1 (psumL z) |>.setb 2 [pint p.op,pstr p.name,pint p.n,pint p.m,pstr p.s,ppreds p.subs] |>.setb 3 [pbool false,pbool false] |>.setb 7007 [pbool (!(p.subs.take k).any (fun q => !(canZ s z q).yes)),pbool ((p.subs.take k).any (fun q=>(canZ s z q).no))] |>.put 3 (.ptr 0 0) |>.put 4 (.ptr 1 0) |>.put 5 (.ptr 2 0) |>.put 6 (.ptr 3 0) |>.put 8 (.ptr 7007 0) |>.put 9 (pint k))) (fun k=>k≤p.subs.length) (fun k=>p.subs.length - k) 0 (by omega) ?_ ?_
  ·simp only [List.take_zero,List.any_nil,Bool.not_false]
   exact sb
  intro k hk
  by_cases hlt:k < p.subs.length
  ·have h1:=h k hlt
   have hlk:=low_prL (p.subs.getD k default)
   have e1:(p.subs.take (k+1)).any (fun q => !(canZ s z q).yes)=((p.subs.take k).any (fun q => !(canZ s z q).yes) || !(canZ s z (p.subs.getD k default)).yes):=by rw [take_getD default hlt];simp
   have e2:(p.subs.take (k+1)).any (fun q=>(canZ s z q).no)=((p.subs.take k).any (fun q=>(canZ s z q).no) || (canZ s z (p.subs.getD k default)).no):=by rw [take_getD default hlt];simp
   generalize canZ s z (p.subs.getD k default)=t at *
   generalize (p.subs.take k).any (fun q => !(canZ s z q).yes)=y at *
   generalize (p.subs.take k).any (fun q=>(canZ s z q).no)=x at *
   obtain ⟨ty,tn⟩:=t
   unfold ptruth truthL at h1
   simp only at h1 e1 e2
   cases y<;>cases x <;>
   ·refine wk ?_
    refine loopP (k+1) (by omega) (by omega) ?_
    simp only [e1,e2,Bool.true_or,Bool.false_or,Bool.not_true,Bool.not_false,Bool.not_not]
    exact sb
  ·have hkk:k=p.subs.length:=by omega
   rw [List.take_of_length_le (by omega)]
   refine wk ?_
   exact retP (r:=ptruth ⟨_,_⟩) rfl (low_ptruth _) rfl
 ·rw [canZ_3 ho]
  unfold ppred at *
  rw [show prL p = [pint p.op,pstr p.name,pint p.n,pint p.m,pstr p.s,ppreds p.subs] from prL_eq p] at *
  refine wk ?_
  refine PW.loop (fun k:Nat=>(bot.setb 0 (schCellsP s) |>.setb 1 (psumL z) |>.setb 2 [pint p.op,pstr p.name,pint p.n,pint p.m,pstr p.s,ppreds p.subs] |>.setb 3 [pbool false,pbool false] |>.setb 7007 [pbool ((p.subs.take k).any (fun q=>(canZ s z q).yes)),pbool (!(p.subs.take k).any (fun q => !(canZ s z q).no))] |>.put 3 (.ptr 0 0) |>.put 4 (.ptr 1 0) |>.put 5 (.ptr 2 0) |>.put 6 (.ptr 3 0) |>.put 8 (.ptr 7007 0) |>.put 9 (pint k))) (fun k=>k≤p.subs.length) (fun k=>p.subs.length - k) 0 (by omega) ?_ ?_
  ·simp only [List.take_zero,List.any_nil,Bool.not_false]
   exact sb
  intro k hk
  by_cases hlt:k < p.subs.length
  ·have h1:=h k hlt
   have hlk:=low_prL (p.subs.getD k default)
   have e1:(p.subs.take (k+1)).any (fun q=>(canZ s z q).yes)=((p.subs.take k).any (fun q=>(canZ s z q).yes) || (canZ s z (p.subs.getD k default)).yes):=by rw [take_getD default hlt];simp
   have e2:(p.subs.take (k+1)).any (fun q => !(canZ s z q).no)=((p.subs.take k).any (fun q => !(canZ s z q).no) || !(canZ s z (p.subs.getD k default)).no):=by rw [take_getD default hlt];simp
   generalize canZ s z (p.subs.getD k default)=t at *
   generalize (p.subs.take k).any (fun q=>(canZ s z q).yes)=y at *
   generalize (p.subs.take k).any (fun q => !(canZ s z q).no)=x at *
   obtain ⟨ty,tn⟩:=t
   unfold ptruth truthL at h1
   simp only at h1 e1 e2
   cases y<;>cases x <;>
   ·refine wk ?_
    refine loopP (k+1) (by omega) (by omega) ?_
    simp only [e1,e2,Bool.true_or,Bool.false_or,Bool.not_true,Bool.not_false,Bool.not_not]
    exact sb
  ·have hkk:k=p.subs.length:=by omega
   rw [List.take_of_length_le (by omega)]
   refine wk ?_
   exact retP (r:=ptruth ⟨_,_⟩) rfl (low_ptruth _) rfl
 ·rw [canZ_5 hv ho hp hk]
  have hfi:=h5 ho
  obtain ⟨d,hd⟩:=findI_get hfi
  have hlt:=(List.getElem?_eq_some_iff.1 hd).1
  have hlen:=hv.len
  have c1:=pcRefFind s p.name hs.1
  have hwl:=hs.2.2.2 (findI s.defs p.name).toNat
  have hz3:=hs.2.2.1
  unfold fieldAt
  clear h h4
  obtain ⟨j,hj⟩:∃j:Nat,findI s.defs p.name=j:=⟨(findI s.defs p.name).toNat,by omega⟩
  rw [hj] at c1 hwl hlt ⊢
  rw [Int.toNat_natCast] at hwl hlt ⊢
  have hlf:=low_pfldL (z.fields.getD j default)
  have c2:=pcRefHas (z.fields.getD j default).words p.s (by omega)
  have f:∀t t' : PTruth,t=t'→ptruth t=ptruth t':=fun t t' h=>by rw [h]
  clear hd hp hk hs hv hj hfi
  unfold leafR
  unfold ppred
  rw [prL_eq]
  have hla:∀n:Int,decide (z.count > n)=decide (n < z.count):=fun _=>rfl
  by_cases r1:p.op=5∨(z.fields.getD j default).has=0
  ·rw [if_pos r1]
   by_cases r0:(z.fields.getD j default).has > 0
   ·rw [decide_eq_true r0]
    by_cases r4:(z.fields.getD j default).has < z.count
    ·rw [decide_eq_true r4]
     rcases r1 with r1|r1
     ·refine wk ?_
      exact retP (r:=ptruth ⟨true,true⟩) rfl (low_ptruth _) rfl
     ·exact absurd r1 (by omega)
    ·rw [decide_eq_false r4]
     rcases r1 with r1|r1
     ·refine wk ?_
      exact retP (r:=ptruth ⟨true,false⟩) rfl (low_ptruth _) rfl
     ·exact absurd r1 (by omega)
   ·rw [decide_eq_false r0]
    by_cases r4:(z.fields.getD j default).has < z.count
    ·rw [decide_eq_true r4]
     rcases r1 with r1|r1
     ·refine wk ?_
      exact retP (r:=ptruth ⟨false,true⟩) rfl (low_ptruth _) rfl
     ·by_cases r2:p.op=5
      ·refine wk ?_
       exact retP (r:=ptruth ⟨false,true⟩) rfl (low_ptruth _) rfl
      ·refine wk ?_
       exact retP (r:=ptruth ⟨false,true⟩) rfl (low_ptruth _) rfl
    ·rw [decide_eq_false r4]
     rcases r1 with r1|r1
     ·refine wk ?_
      exact retP (r:=ptruth ⟨false,false⟩) rfl (low_ptruth _) rfl
     ·by_cases r2:p.op=5
      ·refine wk ?_
       exact retP (r:=ptruth ⟨false,false⟩) rfl (low_ptruth _) rfl
      ·refine wk ?_
       exact retP (r:=ptruth ⟨false,false⟩) rfl (low_ptruth _) rfl
  rw [if_neg r1]
  simp only [not_or] at r1
  obtain ⟨r1,r2⟩:=r1
  by_cases r3:p.op=6
  ·rw [if_pos r3]
   cases r0:decide (mxI (z.fields.getD j default).lo p.n≤mnI (z.fields.getD j default).hi p.m) with
   |true=>
    by_cases r4:(z.fields.getD j default).has < z.count
    ·rw [decide_eq_true r4]
     refine wk ?_
     exact retP (r:=ptruth ⟨true,true⟩) rfl (low_ptruth _) rfl
    ·rw [decide_eq_false r4]
     by_cases r5:(z.fields.getD j default).lo < p.n
     ·rw [decide_eq_true r5]
      refine wk ?_
      exact retP (r:=ptruth ⟨true,true⟩) rfl (low_ptruth _) rfl
     ·rw [decide_eq_false r5]
      by_cases r6:(z.fields.getD j default).hi > p.m
      ·rw [decide_eq_true r6]
       refine wk ?_
       exact retP (r:=ptruth ⟨true,true⟩) rfl (low_ptruth _) rfl
      ·rw [decide_eq_false r6]
       refine wk ?_
       exact retP (r:=ptruth ⟨true,false⟩) rfl (low_ptruth _) rfl
   |false=>
    by_cases r4:(z.fields.getD j default).has < z.count
    ·rw [decide_eq_true r4]
     refine wk ?_
     exact retP (r:=ptruth ⟨false,true⟩) rfl (low_ptruth _) rfl
    ·rw [decide_eq_false r4]
     by_cases r5:(z.fields.getD j default).lo < p.n
     ·rw [decide_eq_true r5]
      refine wk ?_
      exact retP (r:=ptruth ⟨false,true⟩) rfl (low_ptruth _) rfl
     ·rw [decide_eq_false r5]
      by_cases r6:(z.fields.getD j default).hi > p.m
      ·rw [decide_eq_true r6]
       refine wk ?_
       exact retP (r:=ptruth ⟨false,true⟩) rfl (low_ptruth _) rfl
      ·rw [decide_eq_false r6]
       refine wk ?_
       exact retP (r:=ptruth ⟨false,false⟩) rfl (low_ptruth _) rfl
  ·rw [if_neg r3]
   generalize hasB (z.fields.getD j default).words p.s=hb at *
   by_cases r4:(z.fields.getD j default).has < z.count
   ·rw [decide_eq_true r4]
    refine wk ?_
    exact retP (r:=ptruth ⟨hb,true⟩) rfl (low_ptruth _) rfl
   ·rw [decide_eq_false r4]
    by_cases r5:1 < (z.fields.getD j default).words.length
    ·rw [decide_eq_true r5]
     refine wk ?_
     exact retP (r:=ptruth ⟨hb,true⟩) rfl (low_ptruth _) rfl
    ·rw [decide_eq_false r5]
     cases hb
     ·refine wk ?_
      exact retP (r:=ptruth ⟨false,true⟩) rfl (low_ptruth _) rfl
     ·refine wk ?_
      exact retP (r:=ptruth ⟨true,false⟩) rfl (low_ptruth _) rfl
end
section
open Go.RowKit
variable {s:PSchema} {z:PSum} {n:Int}
mutual
theorem pw_rCan (hs:SmallW s z) (hv:SumV s n z):∀p:PPred,okP s p→okK s p→PCalls Tryz.prog 32 [pschema s,psum z,ppred p] (· = ptruth (canZ s z p))
 | .mk op nm x y w subs,hp,hk=>by
  have hp1:=hp
  have hk1:=hk
  rw [okP] at hp1
  rw [okK] at hk1
  exact pw_rCanW hs hv (.mk op nm x y w subs) hp hk hp1.2.2.2.1 hp1.2.1 hp1.1 hp1.2.2.1 (pw_rCanL hs hv subs hp1.2.2.2.2 hk1.2)
theorem pw_rCanL (hs:SmallW s z) (hv:SumV s n z):∀l:List PPred,okL s l→okKL s l→∀k,k < l.length→PCalls Tryz.prog 32 [pschema s,psum z,ppred (l.getD k default)] (· = ptruth (canZ s z (l.getD k default)))
 | [],_,_,k,hk=>by simp at hk
 |p :: l,h,hq,k,hk=>by
  rw [okL] at h
  rw [okKL] at hq
  cases k with
  |zero=>exact pw_rCan hs hv p h.1 hq.1
  |succ k=>
   have:=pw_rCanL hs hv l h.2 hq.2 k (by simpa using hk)
   simpa using this
end
end
end Go.Proofs.YtoamkpgaaanafaaGreat
