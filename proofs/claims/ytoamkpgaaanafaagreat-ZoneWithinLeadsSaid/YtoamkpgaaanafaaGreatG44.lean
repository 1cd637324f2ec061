/- Out of: We, Wh. -/
import Derived.Test.YtoamkpgaaanafaaGreatRows
import Derived.WalkKit
import Derived.WalkSpells
import Derived.WalkLawsBesides
import Derived.Deep.QuietTactic
import Derived.BigQuiet
import Derived.RegionTactic
import Derived.Lib.AppendZeros
import Derived.Lib.AppendStr
import Derived.Lib.Hide
import Derived.OrdersIn
import Derived.Laws.BytesString
import Derived.WideLaws
import Derived.RangeFuncRecord
import Derived.Orders
import GoSem.Step
import Derived.Laws.RangeAny
import Derived.Lib.OthersKept
import Derived.Outline
import Derived.Laws.EntriesVeiled
import Derived.KernelRfl
import Derived.StillTailTactics
import Derived.Deep.Cut
import Derived.RangeFuncCalls
import Derived.Lib.BitFns
import Derived.Test.YtoamkpgaaanafaaGreatShelf
import Derived.Test.YtoamkpgaaanafaaGreatIter
import Derived.Laws.Strings
import Derived.Test.YtoamkpgaaanafaaGreatG1
import Derived.Test.YtoamkpgaaanafaaGreatG3
import Derived.Test.YtoamkpgaaanafaaGreatG4
import Derived.Test.YtoamkpgaaanafaaGreatG6
import Derived.Test.YtoamkpgaaanafaaGreatG7
import Derived.Test.YtoamkpgaaanafaaGreatG8
import Derived.Test.YtoamkpgaaanafaaGreatG9
import Derived.Test.YtoamkpgaaanafaaGreatG10
import Derived.Test.YtoamkpgaaanafaaGreatG11
import Derived.Test.YtoamkpgaaanafaaGreatG12
import Derived.Test.YtoamkpgaaanafaaGreatG14
import Derived.Test.YtoamkpgaaanafaaGreatG15
import Derived.Test.YtoamkpgaaanafaaGreatG17
import Derived.Test.YtoamkpgaaanafaaGreatG18
import Derived.Test.YtoamkpgaaanafaaGreatG19
import Derived.Test.YtoamkpgaaanafaaGreatG21
import Derived.Test.YtoamkpgaaanafaaGreatG22
import Derived.Test.YtoamkpgaaanafaaGreatG23
import Derived.Test.YtoamkpgaaanafaaGreatG29
import Derived.Test.YtoamkpgaaanafaaGreatG30
import Derived.Test.YtoamkpgaaanafaaGreatG32
import Derived.Test.YtoamkpgaaanafaaGreatG34
import Derived.Test.YtoamkpgaaanafaaGreatG37
import Derived.Test.YtoamkpgaaanafaaGreatG38
import Derived.Test.YtoamkpgaaanafaaGreatG41
namespace Go.Proofs.YtoamkpgaaanafaaGreat
set_option linter.unusedSimpArgs false
set_option linter.unusedVariables false
set_option linter.unnecessarySimpa false
section
open Go.RowKit
theorem entry_right {s:PSchema} {e:PEntry} (hc:checkE s=0) (h:entryA s e=0):vecB e.vec=true∧(e.vec.length:Int)=s.dims:=by
 rw [entryA_E hc] at h
 exact entryE_vec h
theorem pivS_get {s:PSchema} {pv:List (List Int)} (h:pivS s pv=true):pv.length≤8∧∀k,k < pv.length→vecB (pv.getD k default)=true∧((pv.getD k default).length:Int)=s.dims:=by
 simp only [pivS,Bool.and_eq_true,Bool.not_eq_true',decide_eq_true_eq] at h
 exact ⟨h.2,fun k hk=>wrongV_ok (by rw [h.1];decide) _ (getD_mem hk)⟩
structure ObeyZ (s:PSchema) (pv:List (List Int)) (z:PSum) (e:PEntry):Prop where
 ent:entryA s e=0
 box:boxHas z.box e.vec=true
 num:z.shells.length=pv.length
 keys:∀k,k < pv.length→obeyK s pv z e k=true
 fld:∀k,k < s.defs.length→obeyF (s.defs.getD k default) (z.fields.getD k default) z.count e=true
theorem obeyZ_of {s:PSchema} {pv:List (List Int)} {z:PSum} {e:PEntry} (h:obeysZ s pv z e=true):ObeyZ s pv z e:=by
 simp only [obeysZ,Bool.and_eq_true,decide_eq_true_eq,List.all_eq_true,List.mem_range] at h
 obtain ⟨h1,h2,h3,h4,h5,h6,h7,h8⟩:=h
 exact ⟨h1,h2,h3,h4,h8⟩
theorem keysP_len (m:Int) (pv:List (List Int)) (v:List Int):(keysP m pv v).length=pv.length:=by simp [keysP]
end
section
open Go.RowKit
variable {s:PSchema} {pv:List (List Int)} {z:PSum} {e:PEntry} {n:Int}
theorem obey_in (hz:SumV s n z) (h:ObeyZ s pv z e):shIn z.shells (keysP s.metric pv e.vec)=true:=by
 simp only [shIn,hz.shells,Bool.true_and,Bool.and_eq_true,decide_eq_true_eq,List.all_eq_true,List.mem_range,keysP_len,h.num]
 refine ⟨trivial,fun k hk=>?_⟩
 rw [keysP_get hk]
 have:=h.keys k hk
 simpa only [obeyK,withinB,hasP,Bool.and_eq_true,decide_eq_true_eq] using this
theorem keyD_zero (m:Int):∀l:List Int,(∀d∈l,d=0)→keyD m l=0
 | [],_=>rfl
 |d :: r,h=>by
  have h0:=h d (by simp)
  subst h0
  have e:addM m 0 0=0:=by unfold addM;split<;>simp
  have ih:=keyD_zero m r fun x hx=>h x (by simp [hx])
  unfold keyD at ih ⊢
  rw [List.foldl_cons,e,ih]
theorem obey_near (hm:keyB s.metric=true) (hv:vecB e.vec=true) (h:ObeyZ s pv z e):boxNear s.metric z.box e.vec=(0,0):=by
 have hb:=h.box
 simp only [boxHas,Bool.and_eq_true,decide_eq_true_eq,List.all_eq_true,List.mem_range,hasK] at hb
 obtain ⟨h1,h2,h3⟩:=hb
 unfold boxNear
 rw [if_pos (by simp only [h1,hv,hm,Bool.and_true,Bool.true_and,decide_eq_true_eq];exact h2),keyD_zero]
 intro d hd
 obtain ⟨k,hk,rfl⟩:=List.mem_map.1 hd
 have:=h3 k (by simpa using hk)
 unfold gapD
 omega
theorem obey_low (hm:keyB s.metric=true) (hv:vecB e.vec=true) (hp:∀k,k < pv.length→vecB (pv.getD k default)=true) (hz:SumV s n z) (h:ObeyZ s pv z e):lowP s.metric z.shells (keysP s.metric pv e.vec)=(0,0):=by
 have hb:∀k,k < pv.length→0≤keyV s.metric (pv.getD k default) e.vec∧keyV s.metric (pv.getD k default) e.vec≤134217728:=fun k hk=>keyV_bound (hp k hk) hv
 have ha:askB s.metric z.shells (keysP s.metric pv e.vec)=true:=by
  simp only [askB,hm,hz.shells,Bool.true_and,Bool.and_eq_true,decide_eq_true_eq,keysP_len,List.all_eq_true,h.num,true_and]
  intro x hx
  obtain ⟨k,hk,rfl⟩:=List.getElem_of_mem hx
  have hk' : k < pv.length:=by rw [keysP_len] at hk;exact hk
  have:=hb k hk'
  rw [←keysP_get hk',getD_atW hk] at this
  rw [hasP,Bool.and_eq_true]
  exact ⟨decide_eq_true this.1,decide_eq_true this.2⟩
 have hl:∀n,n≤pv.length→lowF s.metric z.shells (keysP s.metric pv e.vec) n=0:=fun n=>by
  induction n with
  |zero=>intro _;rfl
  |succ n ih=>
   intro hn
   have h1:=h.keys n (by omega)
   have h2:=hb n (by omega)
   simp only [obeyK,withinB,Bool.and_eq_true,decide_eq_true_eq] at h1
   rw [lowF_succ,ih (by omega),keysP_get (by omega),gapM]
   have e1:clampI (keyV s.metric (pv.getD n default) e.vec) (z.shells.getD n default).lo (z.shells.getD n default).hi=keyV s.metric (pv.getD n default) e.vec:=by unfold clampI;omega
   rw [e1,lowM_same _ h2.1 h2.2];rfl
 unfold lowP
 rw [if_pos ha,h.num,hl _ (Nat.le_refl _)]
theorem obey_bound (hm:keyB s.metric=true) (hv:vecB e.vec=true) (hp:∀k,k < pv.length→vecB (pv.getD k default)=true) (hz:SumV s n z) (h:ObeyZ s pv z e):zBound s z e.vec (keysP s.metric pv e.vec)=(0,0):=by
 unfold zBound
 rw [obey_near hm hv h,obey_low hm hv hp hz h]
 rfl
theorem fieldAt_def {k:Nat} (hc:checkE s=0) (hk:k < s.defs.length):findI s.defs (s.defs.getD k default).name=k∧fieldAt s z (s.defs.getD k default).name=z.fields.getD k default:=by
 have h1:=findI_at (checkE_ok hc) (j:=k) (d:=s.defs.getD k default) (by rw [List.getElem?_eq_getElem hk,getD_atW hk])
 refine ⟨h1,?_⟩
 rw [fieldAt,h1,Int.toNat_natCast]
theorem obey_can5 {k:Nat} (hc:checkE s=0) (hk:k < s.defs.length) (hz:SumV s n z) (h:ObeyZ s pv z e) (hf:(getA e.attrs (s.defs.getD k default).name).2=false):(canZ s z (.mk 5 (s.defs.getD k default).name 0 0 ByteArray.empty [])).no=true:=by
 have h1:=h.fld k hk
 rw [obeyF,if_pos hf] at h1
 have h2:¬(z.fields.getD k default).has=z.count:=by simpa using h1
 have h3:=(fieldB_ok (hz.field k hk)).2.1
 rw [canZ,if_neg (by decide),if_neg (by decide),if_neg (by decide),if_neg (by decide),if_pos rfl]
 simp only [(fieldAt_def (z:=z) hc hk).2,decide_eq_true_eq]
 omega
theorem obey_can6 {k:Nat} (hc:checkE s=0) (hk:k < s.defs.length) (hz:SumV s n z) (h:ObeyZ s pv z e) (hf:(getA e.attrs (s.defs.getD k default).name).2=true) (h1:(s.defs.getD k default).kind=1):(canZ s z (.mk 6 (s.defs.getD k default).name (getA e.attrs (s.defs.getD k default).name).1.n (getA e.attrs (s.defs.getD k default).name).1.n ByteArray.empty [])).yes=true:=by
 have h2:=h.fld k hk
 rw [obeyF,if_neg (by rw [hf];decide)] at h2
 split at h2
 ·cases h2
 ·rename_i h3
  first|rw [if_pos h1] at h2|skip
  simp only [withinB,Bool.and_eq_true,decide_eq_true_eq] at h2
  rw [canZ,if_neg (by decide),if_neg (by decide),if_neg (by decide),if_neg (by decide),if_neg (by decide),if_pos rfl]
  simp only [(fieldAt_def (z:=z) hc hk).2]
  rw [if_neg h3]
  simp only [decide_eq_true_eq]
  omega
theorem obey_can7 {k:Nat} (hc:checkE s=0) (hk:k < s.defs.length) (hz:SumV s n z) (h:ObeyZ s pv z e) (hf:(getA e.attrs (s.defs.getD k default).name).2=true) (h1:(s.defs.getD k default).kind=2):(canZ s z (.mk 7 (s.defs.getD k default).name 0 0 (getA e.attrs (s.defs.getD k default).name).1.s [])).yes=true:=by
 have h2:=h.fld k hk
 rw [obeyF,if_neg (by rw [hf];decide)] at h2
 split at h2
 ·cases h2
 ·rename_i h3
  first|rw [if_neg (by omega),if_pos h1] at h2|rw [if_neg (by omega)] at h2|skip
  rw [canZ,if_neg (by decide),if_neg (by decide),if_neg (by decide),if_neg (by decide),if_neg (by decide),if_neg (by decide)]
  simp only [(fieldAt_def (z:=z) hc hk).2]
  exact h2
theorem okP_one {op a b:Int} {nm w:ByteArray} (h1:5≤op) (h2:op≤7) (h3:0≤findI s.defs nm):okP s (.mk op nm a b w []):=by
 rw [okP]
 exact ⟨⟨by omega,h2⟩,fun h=>by omega,fun _=>h3,by simp,by rw [okL];trivial⟩
theorem canRaw {p:PPred} (hs:SmallW s z) (hsub:p.subs = []) (ho:okP s p):PCalls Tryz.prog 31 [pschema s,psum z,prRaw p] (· = .tup [pbool (canZ s z p).yes,pbool (canZ s z p).no]):=
 (pw_can hs p ho).weakA (.cons (.refl _) (.cons (.refl _) (.cons (weak_pr p hsub) .nil)))
end
end Go.Proofs.YtoamkpgaaanafaaGreat
