/- Out of: Qa, Qf, Ud. -/
import Derived.Test.YtoamkpgaaanafaaGreatRows
import Derived.WalkKit
import Derived.WalkSpells
import Derived.WalkLawsBesides
import Derived.Deep.QuietTactic
import Derived.BigQuiet
import Derived.RegionTactic
import Derived.Lib.AppendZeros
import Derived.Lib.AppendStr
import Derived.Lib.Hide
import Derived.OrdersIn
import Derived.Laws.BytesString
import Derived.WideLaws
import Derived.RangeFuncRecord
import Derived.Orders
import GoSem.Step
import Derived.Laws.RangeAny
import Derived.Lib.OthersKept
import Derived.Outline
import Derived.Laws.EntriesVeiled
import Derived.KernelRfl
import Derived.StillTailTactics
import Derived.Deep.Cut
import Derived.RangeFuncCalls
import Derived.Lib.BitFns
import Derived.Test.YtoamkpgaaanafaaGreatShelf
import Derived.Test.YtoamkpgaaanafaaGreatIter
import Derived.Laws.Strings
import Derived.Test.YtoamkpgaaanafaaGreatG1
import Derived.Test.YtoamkpgaaanafaaGreatG3
import Derived.Test.YtoamkpgaaanafaaGreatG6
import Derived.Test.YtoamkpgaaanafaaGreatG7
import Derived.Test.YtoamkpgaaanafaaGreatG8
import Derived.Test.YtoamkpgaaanafaaGreatG9
import Derived.Test.YtoamkpgaaanafaaGreatG10
import Derived.Test.YtoamkpgaaanafaaGreatG11
import Derived.Test.YtoamkpgaaanafaaGreatG12
import Derived.Test.YtoamkpgaaanafaaGreatG14
import Derived.Test.YtoamkpgaaanafaaGreatG15
import Derived.Test.YtoamkpgaaanafaaGreatG17
import Derived.Test.YtoamkpgaaanafaaGreatG21
namespace Go.Proofs.YtoamkpgaaanafaaGreat
set_option linter.unusedSimpArgs false
set_option linter.unusedVariables false
set_option linter.unnecessarySimpa false
section
open Go.RowKit
def shN (l:List PShell):List Int:=l.flatMap fun s => [s.lo,s.hi]
def flN (l:List PField):List Int:=l.flatMap fun f => [f.has,f.lo,f.hi,(f.words.length:Int)]
def flW (l:List PField):List ByteArray:=l.flatMap (·.words)
def headZ (z:PSum):List Int := [z.count,z.fromLo,z.fromHi,z.toHi,z.bornLo,z.bornHi]
def boxN (z:PSum):List Int:=headZ z ++ (z.box.lo.length:Int) :: z.box.lo ++ (z.box.hi.length:Int) :: z.box.hi
def numsZ (z:PSum):List Int:=boxN z ++ (z.shells.length:Int) :: shN z.shells ++ (z.fields.length:Int) :: flN z.fields
def encZ (z:PSum):List Int:=intsB (numsZ z) ++ strsB (flW z.fields)
theorem shN_len (l:List PShell):(shN l).length=2 * l.length:=by
 induction l with
 |nil=>rfl
 |cons a r ih=>simp only [shN,List.flatMap_cons,List.length_append,List.length_cons,List.length_nil] at *; omega
theorem flN_len (l:List PField):(flN l).length=4 * l.length:=by
 induction l with
 |nil=>rfl
 |cons a r ih=>simp only [flN,List.flatMap_cons,List.length_append,List.length_cons,List.length_nil] at *; omega
theorem boxN_len (z:PSum):(boxN z).length=8+z.box.lo.length+z.box.hi.length:=by
 simp only [boxN,headZ,List.length_append,List.length_cons,List.length_nil];omega
theorem numsZ_len (z:PSum):(numsZ z).length=10+z.box.lo.length+z.box.hi.length+2 * z.shells.length+4 * z.fields.length:=by
 simp only [numsZ,List.length_append,List.length_cons,boxN_len,shN_len,flN_len];omega
theorem getD_at {α:Type} [Inhabited α] {l:List α} {k:Nat} (h:k < l.length):l.getD k default=l[k]:=by rw [List.getD_eq_getElem?_getD,List.getElem?_eq_getElem h];rfl
theorem shN_take {l:List PShell} {k:Nat} (h:k < l.length):shN (l.take (k+1))=shN (l.take k) ++ [(l.getD k default).lo,(l.getD k default).hi]:=by
 unfold shN
 rw [List.take_add_one,List.getElem?_eq_getElem h,List.flatMap_append,getD_at h]
 simp
theorem flN_take {l:List PField} {k:Nat} (h:k < l.length):flN (l.take (k+1))=flN (l.take k) ++ [(l.getD k default).has,(l.getD k default).lo,(l.getD k default).hi,((l.getD k default).words.length:Int)]:=by
 unfold flN
 rw [List.take_add_one,List.getElem?_eq_getElem h,List.flatMap_append,getD_at h]
 simp
theorem flW_take {l:List PField} {k:Nat} (h:k < l.length):flW (l.take (k+1))=flW (l.take k) ++ (l.getD k default).words:=by
 unfold flW
 rw [List.take_add_one,List.getElem?_eq_getElem h,List.flatMap_append,getD_at h]
 simp
theorem flW_le (l:List PField) (k:Nat):(flW (l.take k)).length≤(flW l).length:=by
 conv=>rhs;rw [←List.take_append_drop k l]
 unfold flW
 rw [List.flatMap_append,List.length_append];omega
theorem flW_word (l:List PField) {k:Nat} (h:k < l.length):(l.getD k default).words.length≤(flW l).length:=by
 have h1:=flW_le l (k+1)
 rw [flW_take h,List.length_append] at h1
 omega
structure EncOK (z:PSum):Prop where
 head:Fit (headZ z)
 lo:Fit z.box.lo
 hi:Fit z.box.hi
 shells:∀s∈z.shells,Fit64 s.lo∧Fit64 s.hi
 fields:∀f∈z.fields,Fit64 f.has∧Fit64 f.lo∧Fit64 f.hi
 n1:z.box.lo.length≤100000
 n2:z.box.hi.length≤100000
 n3:z.shells.length≤100000
 n4:z.fields.length≤100000
 n5:(flW z.fields).length≤100000
 words:SmallStrs (flW z.fields)
theorem numsZ_fit {z:PSum} (h:EncOK z):Fit (numsZ z):=by
 obtain ⟨h1,h2,h3,h4,h5,n1,n2,n3,n4,n5,-⟩:=h
 intro x hx
 simp only [numsZ,boxN,List.mem_append,List.mem_cons] at hx
 rcases hx with ((((hx|hx|hx)|hx|hx)|hx|hx)|hx|hx)
 ·exact h1 x hx
 ·omega
 ·exact h2 x hx
 ·omega
 ·exact h3 x hx
 ·omega
 ·obtain ⟨s,hs,hq⟩:=List.mem_flatMap.1 hx
  obtain ⟨a,b⟩:=h4 s hs
  simp only [List.mem_cons,List.not_mem_nil,or_false] at hq
  rcases hq with rfl|rfl
  ·exact a
  ·exact b
 ·omega
 ·obtain ⟨f,hf,hq⟩:=List.mem_flatMap.1 hx
  obtain ⟨a,b,c⟩:=h5 f hf
  have hw:f.words.length≤(flW z.fields).length:=by
   obtain ⟨k,hk,rfl⟩:=List.getElem_of_mem hf
   have:=flW_word z.fields hk
   rwa [List.getD_eq_getElem?_getD,List.getElem?_eq_getElem hk] at this
  simp only [List.mem_cons,List.not_mem_nil,or_false] at hq
  rcases hq with rfl|rfl|rfl|rfl
  ·exact a
  ·exact b
  ·exact c
  ·omega
theorem strsB_len2 (l:List ByteArray) (h:SmallStrs l) (hl:l.length≤100000):(strsB l).length≤1000010 * l.length+10:=by
 have h1:=strs_len l h
 have h2:=intB_len l.length (by omega) (by omega)
 rw [strsB,List.length_append];omega
theorem intsB_len2 (l:List Int) (h:Fit l):(intsB l).length≤10 * l.length+(intB l.length).length:=by
 have:=flat_len l h
 rw [intsB,List.length_append];omega
theorem encZ_bound {z:PSum} (h:EncOK z):(intsB (numsZ z)).length≤10000000∧(strsB (flW z.fields)).length≤100002000000:=by
 have h1:=intsB_len2 (numsZ z) (numsZ_fit h)
 have hl:=numsZ_len z
 obtain ⟨-,-,-,-,-,n1,n2,n3,n4,n5,hw⟩:=h
 have h2:=intB_len (numsZ z).length (by omega) (by omega)
 have h3:=strsB_len2 _ hw n5
 omega
def wC (s:PSchema) (z:PSum) (m:Nat):List PV := [pint s.dims,pint s.metric,pdefs s.defs,pint z.count,pints z.box.lo,pints z.box.hi,pshells z.shells,pint z.fromLo,pint z.fromHi,pint z.toHi,pint z.bornLo,pint z.bornHi,pflds z.fields, .mref m]
def wG (s:PSchema) (z:PSum) (w m:Nat):List (Nat×List PV) := [(w,wC s z m)]
def wMs (m:Nat):List (Nat×PMap) := [(m,waysM)]
theorem wC_lowI {S:Nat→Prop} (s:PSchema) (z:PSum) {m:Nat} (h:S m):∀p∈wC s z m,LowI S p:=by
 intro p hp
 simp only [wC,List.mem_cons,List.not_mem_nil,or_false] at hp
 rcases hp with rfl|rfl|rfl|rfl|rfl|rfl|rfl|rfl|rfl|rfl|rfl|rfl|rfl|rfl
 ·exact .val _
 ·exact .val _
 ·exact ((low_pdefs _).2 trivial).lowI
 ·exact .val _
 ·exact ((low_pints _).2 trivial).lowI
 ·exact ((low_pints _).2 trivial).lowI
 ·exact ((low_pshells _).2 trivial).lowI
 ·exact .val _
 ·exact .val _
 ·exact .val _
 ·exact .val _
 ·exact .val _
 ·exact ((low_pflds _).2 trivial).lowI
 ·exact .mref _ h
theorem wG_lowI {S:Nat→Prop} (s:PSchema) (z:PSum) {w m:Nat} (h:S m):∀x∈wG s z w m,∀p∈x.2,LowI S p:=by
 intro x hx
 simp only [wG,List.mem_cons,List.not_mem_nil,or_false] at hx
 subst hx
 exact wC_lowI s z h
theorem w_givB (s:PSchema) (z:PSum):GivB (wG s z 1000001 1000002):=by unfold wG wC;(first|assumption|(repeat (first|exact givb_nil|exact ows_nil|exact dC_owns _|exact rC_owns _|refine givb_cons ?_ ?_|refine ows_cons ?_ ?_|exact owns_no rfl|exact psecs_owns _ _|assumption)))
theorem w_givM:GivM (wMs 1000002):=by
 unfold wMs waysM waysE
 refine givm_cons ?_ givm_nil
 intro e he
 simp only [List.mem_cons,List.not_mem_nil,or_false] at he
 rcases he with rfl|rfl|rfl|rfl|rfl|rfl|rfl<;>exact owns_no rfl
theorem w_ok (s:PSchema) (z:PSum) {args:List PV} {r:PV} (ha:∀p∈args,LowI (fun i=>i∈ResIds (wG s z 1000001 1000002) (wMs 1000002)) p) (hr:Low r):HOk args (wG s z 1000001 1000002) (wMs 1000002) r (wG s z 1000001 1000002) (wMs 1000002):=
 ⟨ha,wG_lowI s z (by simp [ResIds,wG,wMs]),lm_cons low_ways lm_nil,hr.lowI,wG_lowI s z (by simp [ResIds,wG,wMs]),lm_cons low_ways lm_nil,by simp,by simp⟩
def WCalls (s:PSchema) (z:PSum) (f:Nat) (args:List PV) (r:PV):Prop:=HCalls Tryz.prog f args (wG s z 1000001 1000002) (wMs 1000002) r (wG s z 1000001 1000002) (wMs 1000002)
theorem w_ret {s:PSchema} {z:PSum} {T:Tab} {rs:List ResultVar} {r:PV} {σ:PS} (h1:presult T σ rs=some r) (h3:σ.b 1000001=some (wC s z 1000002)) (h4:σ.m 1000002=some waysM):RetH T rs r (wG s z 1000001 1000002) (wMs 1000002) .ret σ:=
 RetH.mk h1 (Weak.refl _) ⟨⟨_,h3,WeakL.refl _⟩,trivial⟩ ⟨⟨rfl,h4⟩,trivial⟩
set_option maxRecDepth 10000 in
set_option maxHeartbeats 1000000 in
theorem hc_field (s:PSchema) (z:PSum) (nm:ByteArray) (h0:0≤findI s.defs nm) (h1:(findI s.defs nm).toNat < z.fields.length) (hd:s.defs.length≤1000) (hz:z.fields.length≤1000000):WCalls s z 171 [.ptr 1000001 0,pstr nm] (pfld (fieldAt s z nm)):=by
 have hl1:Low (.ep [pstr nm] 0):=by simp [low_ep,low_pstr]
 have c1:=pw_idxD 241 [.ep [pstr nm] 0] (fun d=>eqB d.name nm) s.defs rfl (by omega) (by simp [hl1]) (fun k _=>pw_fieldD nm _)
 rw [idxF_findI] at c1
 unfold fieldAt
 obtain ⟨n,hn⟩:∃n:Nat,findI s.defs nm=n:=⟨(findI s.defs nm).toNat,by omega⟩
 rw [hn] at c1 h1 ⊢
 rw [Int.toNat_natCast] at h1 ⊢
 have hp1:Low (pdefs s.defs):=(low_pdefs _).2 trivial
 have hp2:Low (pshells z.shells):=(low_pshells _).2 trivial
 have hp3:Low (pflds z.fields):=(low_pflds _).2 trivial
 have hlw:=low_ways
 have hlz:=low_pfldL ⟨0,0,0,[]⟩
 have hlk:=low_pfldL (z.fields.getD n default)
 unfold WCalls
 refine hcalls_of_pw typeTab_ok Tryz.func171 rfl (by kernel_rfl) (by simp [pstr,PV.ownB]) (by rw [Tryz.ntmps171];simp) (by simp [ResIds,wG,wMs]) (by simp [ResIds,wG,wMs]) (w_ok s z (li_cons (.ptr _ _ (by simp [ResIds,wG,wMs])) (li_cons (.val _) li_nil)) ((low_pfld _).2 trivial)) ?_ (w_givB s z) w_givM
 rw [Tryz.ntmps171,Tryz.results171]
 refine PW.seq ?_
 refine PW.region typeTab_ok (by kernel_rfl) ?_
 refine wg ?_
 refine PW.freezeP (id:=0) (s:=3) (off:=0) (σ':=(bot.setb 1000001 (wC s z 1000002) |>.setb 1 [pint 0,pint 0,pint 0, .nilsl] |>.setm 1000002 waysM |>.put 0 (.ptr 1000001 0) |>.put 4 (.ptr 1 0))) rfl rfl (fun c hc=>by simp only [List.mem_cons,List.not_mem_nil,or_false] at hc;subst hc;exact .val _) (by exact sbr0) rfl ?_
 refine wk ?_
 exact w_ret rfl rfl rfl
set_option maxRecDepth 10000 in
set_option maxHeartbeats 1000000 in
theorem hc_all (s:PSchema) (z:PSum) (p:PPred) (hl:p.subs.length≤1000000) (h:∀k,k < p.subs.length→WCalls s z 85 [.ptr 1000001 0,ppred (p.subs.getD k default)] (ptruth (canZ s z (p.subs.getD k default)))):WCalls s z 166 [.ptr 1000001 0,ppred p] (ptruths (p.subs.map (canZ s z))):=by
 have hp1:Low (pdefs s.defs):=(low_pdefs _).2 trivial
 have hp2:Low (pshells z.shells):=(low_pshells _).2 trivial
 have hp3:Low (pflds z.fields):=(low_pflds _).2 trivial
 have hlw:=low_ways
 have hps:Low (ppreds p.subs):=(low_ppreds _).2 trivial
 unfold WCalls at *
 refine hcalls_of_pw typeTab_ok Tryz.func166 rfl (by kernel_rfl) (by simp [ppred,PV.ownB]) (by rw [Tryz.ntmps166];simp) (by simp [ResIds,wG,wMs]) (by simp [ResIds,wG,wMs]) (w_ok s z (li_cons (.ptr _ _ (by simp [ResIds,wG,wMs])) (li_cons ((low_ppred p).2 trivial).lowI li_nil)) ((low_ptruths _).2 trivial)) ?_ (w_givB s z) w_givM
 rw [Tryz.ntmps166,Tryz.results166]
 unfold ppred
 rw [prL_eq]
 refine wk ?_
 refine PW.loop (fun k:Nat=>(bot.setb 1000001 (wC s z 1000002) |>.setm 1000002 waysM |>.put 0 (.ptr 1000001 0) |>.put 5 (.sl k 2 (((p.subs.take k).map (canZ s z)).flatMap truthL) (some 134)) |>.put 9 (ppreds p.subs) |>.put 10 (pint p.subs.length) |>.put 11 (pint k))) (fun k=>k≤p.subs.length) (fun k=>p.subs.length - k) 0 (by omega) ?_ ?_
 ·exact sb
 intro k hk
 by_cases hlt:k < p.subs.length
 ·have h1:=h k hlt
  unfold ppred at h1
  have hlk:=low_prL (p.subs.getD k default)
  have e:((p.subs.take (k+1)).map (canZ s z)).flatMap truthL=((p.subs.take k).map (canZ s z)).flatMap truthL ++ truthL (canZ s z (p.subs.getD k default)):=by
   rw [List.take_add_one,List.getElem?_eq_getElem hlt,Option.toList_some,List.map_append,List.flatMap_append]
   simp only [List.map_cons,List.map_nil,List.flatMap_cons,List.flatMap_nil,List.append_nil]
   rw [List.getD_eq_getElem?_getD,List.getElem?_eq_getElem hlt];rfl
  generalize canZ s z (p.subs.getD k default)=t at *
  unfold ptruth at h1
  refine wk ?_
  refine loopP (k+1) (by omega) (by omega) ?_
  have hll:Low (.sl (k+1) 2 (((p.subs.take k).map (canZ s z)).flatMap truthL ++ truthL t) (some 134)):=.sl _ _ _ _ fun c hc=>by
   have h2:∀(l:List PTruth),∀c∈l.flatMap truthL,Low c:=fun l c hc=>by
    obtain ⟨x,-,hx⟩:=List.mem_flatMap.1 hc
    simp only [truthL,List.mem_cons,List.not_mem_nil,or_false] at hx
    rcases hx with rfl|rfl<;>exact .val _
   rcases List.mem_append.1 hc with h3|h3
   ·exact h2 _ c h3
   ·exact h2 [t] c (by simpa using h3)
  simp only [e]
  exact sb
 ·have hkk:k=p.subs.length:=by omega
  subst hkk
  simp only [List.take_length]
  refine wk ?_
  refine w_ret (r:=ptruths (p.subs.map (canZ s z))) ?_ rfl rfl
  unfold ptruths
  rw [List.length_map]
  rfl
structure NumZ (z:PSum):Prop where
 head:Fit (headZ z)
 lo:Fit z.box.lo
 hi:Fit z.box.hi
 shells:∀s∈z.shells,Fit64 s.lo∧Fit64 s.hi
 fields:∀f∈z.fields,(Fit64 f.has∧Fit64 f.lo∧Fit64 f.hi)∧f.words.length≤1000∧∀w∈f.words,w.size≤1000
 n1:z.box.lo.length≤1000
 n2:z.box.hi.length≤1000
 n3:z.shells.length≤1000
 n4:z.fields.length≤100
theorem flW_bound:∀{l:List PField},(∀f∈l,f.words.length≤1000)→(flW l).length≤1000 * l.length
 | [],_=>by simp [flW]
 |a :: r,h=>by
  have h1:=h a (by simp)
  have h2:=flW_bound (l:=r) fun f hf=>h f (by simp [hf])
  simp only [flW,List.flatMap_cons,List.length_append,List.length_cons] at *
  omega
theorem NumZ.enc {z:PSum} (h:NumZ z):EncOK z:=by
 obtain ⟨h1,h2,h3,h4,h5,n1,n2,n3,n4⟩:=h
 refine ⟨h1,h2,h3,h4,fun f hf=>(h5 f hf).1,by omega,by omega,by omega,by omega,?_,fun w hw=>?_⟩
 ·have:=flW_bound fun f hf=>(h5 f hf).2.1
  omega
 ·obtain ⟨f,hf,hw2⟩:=List.mem_flatMap.1 hw
  have:=(h5 f hf).2.2 w hw2
  omega
end
end Go.Proofs.YtoamkpgaaanafaaGreat
