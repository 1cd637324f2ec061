/- Out of: Zv, Ya, Yb, Yc, Cb. -/
import Derived.Test.YtoamkpgaaanafaaGreatK1
import Derived.Test.YtoamkpgaaanafaaGreatK2
import Derived.Test.YtoamkpgaaanafaaGreatK4
import Derived.Test.YtoamkpgaaanafaaGreatK5
import Derived.Test.YtoamkpgaaanafaaGreatK6
import Derived.Test.YtoamkpgaaanafaaGreatK8
import Derived.Test.YtoamkpgaaanafaaGreatK9
import Derived.Test.YtoamkpgaaanafaaGreatK10
import Derived.Test.YtoamkpgaaanafaaGreatK11
import Derived.Test.YtoamkpgaaanafaaGreatK12
import Derived.Test.YtoamkpgaaanafaaGreatK13
import Derived.Test.YtoamkpgaaanafaaGreatK14
import Derived.Test.YtoamkpgaaanafaaGreatK15
import Derived.Test.YtoamkpgaaanafaaGreatK16
import Derived.Test.YtoamkpgaaanafaaGreatK17
import Derived.Test.YtoamkpgaaanafaaGreatK18
import Derived.Test.YtoamkpgaaanafaaGreatK19
import Derived.Test.YtoamkpgaaanafaaGreatK21
import Derived.Test.YtoamkpgaaanafaaGreatK22
import Derived.Test.YtoamkpgaaanafaaGreatK23
namespace Go.Proofs.YtoamkpgaaanafaaGreat
set_option linter.unusedSimpArgs false
set_option linter.unusedVariables false
set_option linter.unnecessarySimpa false
section
open Go.RowKit
structure FSt where
 has:Int
 lo:Int
 hi:Int
 ks:List ByteArray
noncomputable def fldStep (d:PDef) (st:FSt) (e:PEntry):FSt:=
 if (getA e.attrs d.name).2=false then st
 else ⟨st.has+1,min (if st.has=0 then (getA e.attrs d.name).1.n else st.lo) (getA e.attrs d.name).1.n,max (if st.has=0 then (getA e.attrs d.name).1.n else st.hi) (getA e.attrs d.name).1.n,
  if d.kind=2 then addK st.ks (getA e.attrs d.name).1.s else st.ks⟩
noncomputable def fldSt (d:PDef) (l:List PEntry):FSt:=l.foldl (fldStep d) ⟨0,0,0,[]⟩
noncomputable def fieldOfP (d:PDef) (l:List PEntry):PField:=⟨(fldSt d l).has,(fldSt d l).lo,(fldSt d l).hi,sortS (fldSt d l).ks⟩
theorem fldSt_succ {d:PDef} {l:List PEntry} {k:Nat} (h:k < l.length):fldSt d (l.take (k+1))=fldStep d (fldSt d (l.take k)) (l.getD k default):=by
 unfold fldSt
 rw [List.take_add_one,List.foldl_append,List.getElem?_eq_getElem h]
 simp [h]
theorem getA_size {l:List PAttr} {nm:ByteArray} (h:∀a∈l,a.s.size≤1000000000):(getA l nm).1.s.size≤1000000000:=by
 induction l with
 |nil=>simp [getA,zeroA]
 |cons a r ih=>
  unfold getA
  split
  ·exact h a (by simp)
  ·exact ih fun x hx=>h x (by simp [hx])
def FOK (st:FSt) (k:Nat):Prop:=0≤st.has∧st.has≤k∧st.ks.Nodup∧st.ks.length≤k∧∀x∈st.ks,x.size≤1000000000
theorem fldStep_ok {d:PDef} {st:FSt} {e:PEntry} {k:Nat} (h:FOK st k) (he:∀a∈e.attrs,a.s.size≤1000000000):FOK (fldStep d st e) (k+1):=by
 obtain ⟨h1,h2,h3,h4,h5⟩:=h
 unfold fldStep
 split
 ·exact ⟨h1,by omega,h3,by omega,h5⟩
 ·refine ⟨by simp only;omega,by simp only;omega,?_,?_,?_⟩
  ·simp only;split
   ·exact addK_nodup _ h3
   ·exact h3
  ·simp only;split
   ·have:=addK_len st.ks (getA e.attrs d.name).1.s;omega
   ·omega
  ·simp only;split
   ·intro x hx
    rcases addK_mem.1 hx with h|rfl
    ·exact h5 x h
    ·exact getA_size he
   ·exact h5
theorem fldSt_ok {d:PDef} {l:List PEntry} (he:∀k,k < l.length→∀a∈(l.getD k default).attrs,a.s.size≤1000000000):∀k,k≤l.length→FOK (fldSt d (l.take k)) k
 |0,_=>⟨by simp [fldSt],by simp [fldSt],by simp [fldSt],by simp [fldSt],by simp [fldSt]⟩
 |k+1,h=>by
  rw [fldSt_succ (by omega)]
  exact fldStep_ok (fldSt_ok he k (by omega)) (he k (by omega))
def fstL (st:FSt):List PV := [pint st.has,pint st.lo,pint st.hi, .nilsl]
theorem low_fstL (st:FSt):∀c∈fstL st,Low c:=by
 intro c hc
 simp only [fstL,List.mem_cons,List.not_mem_nil,or_false] at hc
 rcases hc with rfl|rfl|rfl|rfl
 ·exact .val _
 ·exact .val _
 ·exact .val _
 ·exact .nilsl
set_option maxRecDepth 10000 in
set_option maxHeartbeats 4000000 in
theorem pw_fieldOf (d:PDef) (l:List PEntry) (hl:l.length≤1000000) (ha:∀k,k < l.length→(l.getD k default).attrs.length≤1000000) (he:∀k,k < l.length→∀a∈(l.getD k default).attrs,a.s.size≤1000000000):PCalls Tryz.prog 60 [.agg (pdefL d),pentries l] (· = pfld (fieldOfP d l)):=by
 have hld:=low_pdefL d
 have hld1:Low (.ep (pdefL d) 0):=.ep _ _ hld
 have hlow:∀x,Low (pentries x):=fun x=>(low_pentries x).2 trivial
 have hlf:=low_fstL
 have hf0:=low_fstL ⟨0,0,0,[]⟩
 have hf1:=low_fstL (fldSt d (l.take 0))
 have hlowm:∀ks,∀e∈smE ks,Low e.2.1∧Low e.2.2:=fun ks e h=>by
  obtain ⟨x,-,rfl⟩:=List.mem_map.1 h
  exact ⟨.val _, .val _⟩
 refine pcalls_of_pw typeTab_ok Tryz.func60 rfl (by kernel_rfl) (by simp [low_pdef,low_pentries]) (by simp [pdefL,pentries,PV.ownB]) (by rw [Tryz.ntmps60];simp) ?_
 rw [Tryz.ntmps60,Tryz.results60]
 refine PW.seq ?_
 refine PW.region typeTab_ok (by kernel_rfl) ?_
 refine wg ?_
 refine PW.freezeP (id:=0) (s:=2) (off:=0) (σ':=(((bot.setb 1 (fstL ⟨0,0,0,[]⟩)).put 1 (pentries l)).put 4 (.ptr 1 0))) rfl rfl hld (by exact sbr0) rfl ?_
 refine wk ?_
 refine PWops.mkMG rfl rfl rfl rfl ?_
 refine wk ?_
 refine PW.loop (fun k:Nat=>(((((((((((bot.setb 1 (fstL ⟨0,0,0,[]⟩)).setb 1000 (fstL (fldSt d (l.take k)))).setm 2000 (smL (fldSt d (l.take k)).ks)).put 2 (.ep (pdefL d) 0)).put 4 (.ptr 1 0)).put 5 (.ptr 1000 0)).put 6 (.mref 2000)).put 12 (pentries l)).put 13 (pint l.length)).put 14 (pint k)))) (fun k=>k≤l.length) (fun k=>l.length - k) 0 (by omega) ?_ ?_
 ·exact sb
 ·intro k hk
  have hf1:=low_fstL (fldSt d (l.take k))
  obtain ⟨o1,o2,o3,o4,o5⟩:=fldSt_ok (d:=d) he k hk
  by_cases hlt:k < l.length
  ·have p1:=pcGet (l.getD k default).attrs d.name (ha k hlt)
   have hst:=fldSt_succ (d:=d) hlt
   have hle:=low_entCells (l.getD k default)
   have hla:=low_pattrL2 (getA (l.getD k default).attrs d.name).1
   generalize fldSt d (l.take k)=st at *
   have hlf1:=low_fstL (fldSt d (l.take (k+1)))
   cases q0:(getA (l.getD k default).attrs d.name).2 with
   |false=>
    rw [q0] at p1
    have hst' : fldSt d (l.take (k+1))=st:=by rw [hst,fldStep,if_pos q0]
    refine wk ?_
    refine loopP (k+1) (by omega) (by omega) ?_
    rw [hst'] at hlf1
    simp only [hst']
    exact sb
   |true=>
    rw [q0] at p1
    refine wk ?_
    by_cases q1:st.has=0
    ·refine wg ?_
     refine PW.drawE typeTab_ok (by kernel_rfl) (by kernel_rfl) (by kernel_rfl) ?_
     refine wg ?_
     refine PW.drawE typeTab_ok (by kernel_rfl) (by kernel_rfl) (by kernel_rfl) ?_
     refine wg ?_
     simp only [Bool.false_eq_true,if_false,if_true,ite_self]
     by_cases q2:d.kind=2
     ·have hst' : fldSt d (l.take (k+1))=⟨st.has+1,(getA (l.getD k default).attrs d.name).1.n,(getA (l.getD k default).attrs d.name).1.n,addK st.ks (getA (l.getD k default).attrs d.name).1.s⟩:=by
       rw [hst,fldStep,if_neg (by rw [q0];decide),if_pos q2]
       simp only [q1,if_true,if_false,Int.min_self,Int.max_self]
      refine wk ?_
      refine PWops.mput rfl rfl rfl rfl rfl rfl rfl rfl rfl rfl rfl rfl (sm_mput _ _ rfl) ?_
      refine wk ?_
      refine loopP (k+1) (by omega) (by omega) ?_
      rw [hst'] at hlf1
      simp only [hst']
      exact sb
     ·have hst' : fldSt d (l.take (k+1))=⟨st.has+1,(getA (l.getD k default).attrs d.name).1.n,(getA (l.getD k default).attrs d.name).1.n,st.ks⟩:=by
       rw [hst,fldStep,if_neg (by rw [q0];decide),if_neg q2]
       simp only [q1,if_true,if_false,Int.min_self,Int.max_self]
      refine wk ?_
      refine loopP (k+1) (by omega) (by omega) ?_
      rw [hst'] at hlf1
      simp only [hst']
      exact sb
    ·refine wg ?_
     refine PW.drawE typeTab_ok (by kernel_rfl) (by kernel_rfl) (by kernel_rfl) ?_
     refine wg ?_
     simp only [Bool.false_eq_true,if_false,if_true]
     rw [show (if (getA (l.getD k default).attrs d.name).1.n < st.lo then (getA (l.getD k default).attrs d.name).1.n else st.lo)=min st.lo (getA (l.getD k default).attrs d.name).1.n from by split<;>omega,show (if (getA (l.getD k default).attrs d.name).1.n > st.hi then (getA (l.getD k default).attrs d.name).1.n else st.hi)=max st.hi (getA (l.getD k default).attrs d.name).1.n from by split<;>omega]
     by_cases q2:d.kind=2
     ·have hst' : fldSt d (l.take (k+1))=⟨st.has+1,min st.lo (getA (l.getD k default).attrs d.name).1.n,max st.hi (getA (l.getD k default).attrs d.name).1.n,addK st.ks (getA (l.getD k default).attrs d.name).1.s⟩:=by
       rw [hst,fldStep,if_neg (by rw [q0];decide),if_pos q2]
       simp only [q1,if_true,if_false,Int.min_self,Int.max_self]
      refine wk ?_
      refine PWops.mput rfl rfl rfl rfl rfl rfl rfl rfl rfl rfl rfl rfl (sm_mput _ _ rfl) ?_
      refine wk ?_
      refine loopP (k+1) (by omega) (by omega) ?_
      rw [hst'] at hlf1
      simp only [hst']
      exact sb
     ·have hst' : fldSt d (l.take (k+1))=⟨st.has+1,min st.lo (getA (l.getD k default).attrs d.name).1.n,max st.hi (getA (l.getD k default).attrs d.name).1.n,st.ks⟩:=by
       rw [hst,fldStep,if_neg (by rw [q0];decide),if_neg q2]
       simp only [q1,if_true,if_false,Int.min_self,Int.max_self]
      refine wk ?_
      refine loopP (k+1) (by omega) (by omega) ?_
      rw [hst'] at hlf1
      simp only [hst']
      exact sb
  ·have hkk:k=l.length:=by omega
   have hfin:fieldOfP d l=⟨(fldSt d (l.take k)).has,(fldSt d (l.take k)).lo,(fldSt d (l.take k)).hi,sortS (fldSt d (l.take k)).ks⟩:=by
    rw [hkk,List.take_length];rfl
   rw [hfin]
   generalize fldSt d (l.take k)=st at *
   have H:=hc_sorted st.ks o3 (by omega) o5 2000
   refine wk ?_
   exact retP (r:=pfld ⟨st.has,st.lo,st.hi,sortS st.ks⟩) rfl ((low_pfld _).2 trivial) rfl
def mnI (n y:Int):Int:=if y < n then y else n
def mxI (n y:Int):Int:=if y > n then y else n
theorem mnI_eq (n y:Int):mnI n y=min n y:=by unfold mnI;split<;>omega
theorem mxI_eq (n y:Int):mxI n y=max n y:=by unfold mxI;split<;>omega
def fldOne (d:PDef) (e:PEntry):PField:=if (getA e.attrs d.name).2=true then ⟨1,(getA e.attrs d.name).1.n,(getA e.attrs d.name).1.n,if d.kind=2 then [(getA e.attrs d.name).1.s] else []⟩ else ⟨0,0,0,[]⟩
def joinR (a b:PField):PField:=if a.has=0 then b else if b.has=0 then a else ⟨a.has+b.has,mnI a.lo b.lo,mxI a.hi b.hi,mergeW a.words b.words⟩
def FInv (st:FSt):Prop:=0≤st.has∧st.ks.Nodup∧(st.has=0→st.lo=0∧st.hi=0∧st.ks = [])
theorem fldStep_inv {d:PDef} {st:FSt} {e:PEntry} (h:FInv st):FInv (fldStep d st e):=by
 obtain ⟨h1,h2,h3⟩:=h
 unfold fldStep
 split
 ·exact ⟨h1,h2,h3⟩
 ·refine ⟨by simp only;omega,?_,fun h=>by simp only at h;omega⟩
  simp only;split
  ·exact addK_nodup _ h2
  ·exact h2
theorem foldl_inv {d:PDef} (l:List PEntry):∀st,FInv st→FInv (l.foldl (fldStep d) st):=by
 induction l with
 |nil=>exact fun st h=>h
 |cons a r ih=>exact fun st h=>ih _ (fldStep_inv h)
theorem fldSt_inv (d:PDef) (l:List PEntry):FInv (fldSt d l):=foldl_inv l _ ⟨by simp, .nil,fun _=>⟨rfl,rfl,rfl⟩⟩
theorem fieldOfP_nil (d:PDef):fieldOfP d []=⟨0,0,0,[]⟩:=by simp [fieldOfP,fldSt,sortS_nil]
theorem fieldOfP_snoc (d:PDef) (l:List PEntry) (e:PEntry):fieldOfP d (l ++ [e])=joinR (fieldOfP d l) (fldOne d e):=by
 have hi:=fldSt_inv d l
 have hs:fldSt d (l ++ [e])=fldStep d (fldSt d l) e:=by unfold fldSt;rw [List.foldl_append];rfl
 unfold fieldOfP
 rw [hs]
 generalize fldSt d l=st at *
 obtain ⟨h1,h2,h3⟩:=hi
 unfold fldStep fldOne joinR
 cases q:(getA e.attrs d.name).2 with
 |false=>
  by_cases z:st.has=0
  ·obtain ⟨a,b,c⟩:=h3 z
   simp [z,a,b,c,sortS_nil]
  ·simp [z]
 |true=>
  by_cases z:st.has=0
  ·obtain ⟨a,b,c⟩:=h3 z
   by_cases k:d.kind=2<;>simp [z,c,k,addK,sortS_nil,sortS_one]
  ·by_cases k:d.kind=2
   ·simp [z,k,sortS_add h2,mnI_eq,mxI_eq]
   ·simp [z,k,mergeW_nil,mnI_eq,mxI_eq]
theorem fieldOfP_one (d:PDef) (e:PEntry):fieldOfP d [e]=fldOne d e:=by
 have:=fieldOfP_snoc d [] e
 rw [fieldOfP_nil] at this
 simpa [joinR] using this
def singleP (s:PSchema) (pv:List (List Int)) (e:PEntry):PSum:=⟨1,⟨e.vec,e.vec⟩,pv.map fun p=>⟨keyV s.metric p e.vec,keyV s.metric p e.vec⟩,e.frm,e.frm,e.to,e.born,e.born,s.defs.map fun d=>fldOne d e⟩
def zeroZ:PSum:=⟨0,⟨[],[]⟩,[],0,0,0,0,0,[]⟩
def joinSum (jf:PField→PField→PField) (s:PSchema) (a b:PSum):PSum×Int:=
 if a.shells.length≠b.shells.length then (zeroZ,1)
 else if 4096 < a.count+b.count then (zeroZ,2)
 else (⟨a.count+b.count,(boxJoin a.box b.box).1,(shJoin a.shells b.shells).1,mnI a.fromLo b.fromLo,mxI a.fromHi b.fromHi,mxI a.toHi b.toHi,mnI a.bornLo b.bornLo,mxI a.bornHi b.bornHi,(List.range s.defs.length).map fun k=>jf (a.fields.getD k default) (b.fields.getD k default)⟩,0)
structure TSt where
 fromLo:Int
 fromHi:Int
 toHi:Int
 bornLo:Int
 bornHi:Int
def tStep (t:TSt) (e:PEntry):TSt:=⟨mnI t.fromLo e.frm,mxI t.fromHi e.frm,mxI t.toHi e.to,mnI t.bornLo e.born,mxI t.bornHi e.born⟩
def tOne (e:PEntry):TSt:=⟨e.frm,e.frm,e.to,e.born,e.born⟩
def tK (l:List PEntry) (k:Nat):TSt:=(l.take k).foldl tStep (tOne (l.getD 0 default))
def tSt (l:List PEntry):TSt:=l.foldl tStep (tOne (l.getD 0 default))
noncomputable def ofL (s:PSchema) (pv:List (List Int)) (l:List PEntry):PSum:=
 ⟨l.length,(boxOf (l.map (·.vec))).1,if 0 < pv.length then (shellP s.metric pv (l.map (·.vec))).1 else [],(tSt l).fromLo,(tSt l).fromHi,(tSt l).toHi,(tSt l).bornLo,(tSt l).bornHi,s.defs.map fun d=>fieldOfP d l⟩
def wrongV (s:PSchema) (v:List Int):Bool := !vecB v || decide ((v.length:Int)≠s.dims)
noncomputable def zOf (s:PSchema) (pv:List (List Int)) (l:List PEntry):PSum×Int:=
 if checkE s≠0∨8 < pv.length∨pv.any (wrongV s)=true then (zeroZ,1)
 else if l.length=0∨(l.any fun e=>decide (entryA s e≠0))=true then (zeroZ,3)
 else if 4096 < l.length then (zeroZ,2)
 else (ofL s pv l,0)
def refL (s:PSchema) (pv:List (List Int)) (l:List PEntry):PSum:=(l.drop 1).foldl (fun z e=>(joinSum joinR s z (singleP s pv e)).1) (singleP s pv (l.getD 0 default))
def refOf (s:PSchema) (pv:List (List Int)) (l:List PEntry):PSum×Int:=
 if checkE s≠0∨8 < pv.length∨pv.any (wrongV s)=true then (zeroZ,1)
 else if (l.any fun e=>decide (entryE s e≠0))=true∨l.length=0 then (zeroZ,3)
 else if 4096 < l.length then (zeroZ,2)
 else (refL s pv l,0)
theorem addM_step {m n d:Int} (hn:0≤n) (h1:0≤d) (h2:d≤2000):n≤addM m n d∧addM m n d≤n+4000000:=by
 have hd:0≤d * d∧d * d≤4000000:=⟨Int.mul_nonneg h1 h1,by
  have:=Int.mul_le_mul h2 h2 h1 (by omega:(0:Int)≤2000)
  omega⟩
 unfold addM
 split
 ·omega
 ·split<;>omega
theorem keyD_step (m:Int):∀(ds:List Int) (n:Int),0≤n→(∀d∈ds,0≤d∧d≤2000)→0≤ds.foldl (addM m) n∧ds.foldl (addM m) n≤n+4000000 * (ds.length:Int)
 | [],n,hn,_=>by simpa using hn
 |d :: r,n,hn,h=>by
  obtain ⟨a1,a2⟩:=h d (by simp)
  obtain ⟨b1,b2⟩:=addM_step (m:=m) hn a1 a2
  obtain ⟨c1,c2⟩:=keyD_step m r (addM m n d) (by omega) (fun x hx=>h x (by simp [hx]))
  rw [List.foldl_cons]
  simp only [List.length_cons]
  omega
theorem zipI_get {g:Int→Int→Int} {a b:List Int} {k:Nat} (h:k < a.length):(zipI g a b).getD k default=g (a.getD k default) (b.getD k default):=by
 simp [zipI,List.getD_eq_getElem?_getD,List.getElem?_map,List.getElem?_range h]
theorem keyV_bound {m:Int} {a b:List Int} (ha:vecB a=true) (hb:vecB b=true):0≤keyV m a b∧keyV m a b≤134217728:=by
 obtain ⟨⟨-,a2⟩,a3⟩:=vecB_get ha
 obtain ⟨-,b3⟩:=vecB_get hb
 have h:=keyD_step m ((zipI subI a b).map absI) 0 (by omega) (fun d hd=>by
  obtain ⟨x,hx,rfl⟩:=List.mem_map.1 hd
  obtain ⟨k,hk,rfl⟩:=List.getElem_of_mem hx
  have hk' : k < a.length:=by rwa [zipI_len] at hk
  have e:=zipI_get (g:=subI) (b:=b) hk'
  rw [List.getD_eq_getElem?_getD,List.getElem?_eq_getElem hk,Option.getD_some] at e
  rw [e]
  have h1:=a3 k
  have h2:=b3 k
  unfold absI subI
  omega)
 unfold keyV normI keyD
 rw [List.length_map,zipI_len] at h
 omega
theorem vecB_of {v:List Int} (h1:1≤v.length) (h2:v.length≤32) (h:∀k,k < v.length → -1000≤v.getD k default∧v.getD k default≤1000):vecB v=true:=by
 simp only [vecB,Bool.and_eq_true,decide_eq_true_eq,Bool.not_eq_true',List.any_eq_false]
 refine ⟨h1,h2,fun x hx=>?_⟩
 obtain ⟨k,hk,rfl⟩:=List.getElem_of_mem hx
 have:=h k hk
 rw [List.getD_eq_getElem?_getD,List.getElem?_eq_getElem hk,Option.getD_some] at this
 simp [farB];omega
structure BoxOK (n:Nat) (b:PBox):Prop where
 lo:b.lo.length=n
 hi:b.hi.length=n
 le:∀k,k < n → -1000≤b.lo.getD k default∧b.lo.getD k default≤b.hi.getD k default∧b.hi.getD k default≤1000
theorem BoxOK.valid {n:Nat} {b:PBox} (h:BoxOK n b) (h1:1≤n) (h2:n≤32):boxB b=true:=by
 have e1:vecB b.lo=true:=vecB_of (by rw [h.lo];exact h1) (by rw [h.lo];exact h2) fun k hk=>by
  have:=h.le k (by rw [←h.lo];exact hk)
  omega
 have e2:vecB b.hi=true:=vecB_of (by rw [h.hi];exact h1) (by rw [h.hi];exact h2) fun k hk=>by
  have:=h.le k (by rw [←h.hi];exact hk)
  omega
 simp only [boxB,e1,e2,Bool.true_and,Bool.and_eq_true,decide_eq_true_eq,List.all_eq_true,List.mem_range]
 exact ⟨by rw [h.lo,h.hi],fun k hk=>(h.le k (by rw [←h.lo];exact hk)).2.1⟩
theorem boxOK_vec {v:List Int} (h:vecB v=true):BoxOK v.length ⟨v,v⟩:=by
 obtain ⟨-,a⟩:=vecB_get h
 exact ⟨rfl,rfl,fun k _=>⟨(a k).1,Int.le_refl _,(a k).2⟩⟩
theorem BoxOK.grow {n:Nat} {b:PBox} {v:List Int} (h:BoxOK n b) (hv:vecB v=true):BoxOK n ⟨zipI min b.lo v,zipI max b.hi v⟩:=by
 obtain ⟨-,a⟩:=vecB_get hv
 refine ⟨by rw [zipI_len,h.lo],by rw [zipI_len,h.hi],fun k hk=>?_⟩
 have h1:=h.le k hk
 have h2:=a k
 have e1:(zipI min b.lo v).getD k default=min (b.lo.getD k default) (v.getD k default):=zipI_get (by rw [h.lo];exact hk)
 have e2:(zipI max b.hi v).getD k default=max (b.hi.getD k default) (v.getD k default):=zipI_get (by rw [h.hi];exact hk)
 simp only [e1,e2]
 omega
theorem getD_app {α:Type} [Inhabited α] {l:List α} {x:α} {k:Nat} (h:k < l.length):(l ++ [x]).getD k default=l.getD k default:=by
 rw [List.getD_eq_getElem?_getD,List.getD_eq_getElem?_getD,List.getElem?_append_left h]
theorem boxOfL_snoc {l:List (List Int)} {v:List Int} (h:0 < l.length):boxOfL (l ++ [v])=⟨zipI min (boxOfL l).lo v,zipI max (boxOfL l).hi v⟩:=by
 unfold boxOfL
 rw [List.drop_append_of_le_length (by omega),List.foldl_append,getD_app h]
 rfl
structure SumOK (s:PSchema) (pv:List (List Int)) (l:List PEntry):Prop where
 met:keyB s.metric=true
 len:pv.length≤8
 piv:∀p∈pv,vecB p=true∧(p.length:Int)=s.dims
 ent:∀e∈l,vecB e.vec=true∧(e.vec.length:Int)=s.dims
theorem SumOK.mono {s:PSchema} {pv:List (List Int)} {l:List PEntry} {e:PEntry} (h:SumOK s pv (l ++ [e])):SumOK s pv l:=⟨h.met,h.len,h.piv,fun x hx=>h.ent x (by simp [hx])⟩
theorem SumOK.last {s:PSchema} {pv:List (List Int)} {l:List PEntry} {e:PEntry} (h:SumOK s pv (l ++ [e])):vecB e.vec=true∧(e.vec.length:Int)=s.dims:=h.ent e (by simp)
theorem snoc_ind {α:Type} {P:List α→Prop} (one:∀a,P [a]) (step:∀l a,0 < l.length→P l→P (l ++ [a])) (l:List α) (h:0 < l.length):P l:=by
 have:∀n (l:List α),l.length=n+1→P l:=by
  intro n
  induction n with
  |zero=>
   intro l hl
   match l,hl with
   | [a],_=>exact one a
  |succ n ih=>
   intro l hl
   have hne:l ≠ []:=fun e=>by rw [e] at hl;simp at hl
   rw [←List.dropLast_concat_getLast hne]
   have hd:l.dropLast.length=n+1:=by rw [List.length_dropLast,hl];omega
   exact step _ _ (by omega) (ih _ hd)
 exact this (l.length - 1) l (by omega)
theorem sum_box {s:PSchema} {pv:List (List Int)} {n:Nat} (hn:(n:Int)=s.dims) (l:List PEntry) (h0:0 < l.length) (h:SumOK s pv l):BoxOK n (boxOfL (l.map (·.vec))):=by
 revert h
 refine snoc_ind (P:=fun l=>SumOK s pv l→BoxOK n (boxOfL (l.map (·.vec)))) (fun a h=>?_) (fun l a hl ih h=>?_) l h0
 ·have he:=h.ent a (by simp)
  have:=boxOK_vec he.1
  rw [show a.vec.length=n by omega] at this
  simpa [boxOfL] using this
 ·rw [List.map_append,List.map_cons,List.map_nil,boxOfL_snoc (by simpa using hl)]
  exact (ih h.mono).grow h.last.1
def shK (s:PSchema) (p:List Int) (l:List PEntry):PShell:=l.foldl (fun sh e=>withP sh (keyV s.metric p e.vec)) ⟨keyV s.metric p (l.getD 0 default).vec,keyV s.metric p (l.getD 0 default).vec⟩
theorem shK_one (s:PSchema) (p:List Int) (e:PEntry):shK s p [e]=⟨keyV s.metric p e.vec,keyV s.metric p e.vec⟩:=by simp [shK,withP]
theorem shK_snoc {s:PSchema} {p:List Int} {l:List PEntry} {e:PEntry} (h:0 < l.length):shK s p (l ++ [e])=withP (shK s p l) (keyV s.metric p e.vec):=by
 unfold shK
 rw [List.foldl_append,getD_app h]
 rfl
theorem shK_ok {s:PSchema} {pv:List (List Int)} {p:List Int} (hp:p∈pv) (l:List PEntry) (h0:0 < l.length) (h:SumOK s pv l):shellB (shK s p l)=true:=by
 revert h
 refine snoc_ind (P:=fun l=>SumOK s pv l→shellB (shK s p l)=true) (fun a h=>?_) (fun l a hl ih h=>?_) l h0
 ·have:=keyV_bound (m:=s.metric) (h.piv p hp).1 (h.ent a (by simp)).1
  rw [shK_one,shellB_iff]
  simp only;omega
 ·have h1:=keyV_bound (m:=s.metric) (h.piv p hp).1 h.last.1
  have h2:=shellB_iff.1 (ih h.mono)
  rw [shK_snoc hl,shellB_iff]
  simp only [withP];omega
theorem keysP_get {m:Int} {pv:List (List Int)} {v:List Int} {k:Nat} (h:k < pv.length):(keysP m pv v).getD k default=keyV m (pv.getD k default) v:=by
 simp [keysP,List.getD_eq_getElem?_getD,h]
theorem range_getD {α β:Type} [Inhabited α] (l:List α) (f:α→β):(List.range l.length).map (fun k=>f (l.getD k default))=l.map f:=by
 apply List.ext_getElem?
 intro k
 simp only [List.getElem?_map]
 by_cases h:k < l.length
 ·simp [List.getElem?_range h,h]
 ·rw [List.getElem?_eq_none (by simpa using h),List.getElem?_eq_none (by omega)];rfl
theorem colI_sh {s:PSchema} {pv:List (List Int)} {l:List PEntry} {k:Nat} (hk:k < pv.length) (h0:0 < l.length):colI (tabL s.metric pv (l.map (·.vec))) k (tabL s.metric pv (l.map (·.vec))).length=shK s (pv.getD k default) l:=by
 unfold colI shK tabL
 rw [List.take_length,List.map_map,List.foldl_map]
 cases l with
 |nil=>simp at h0
 |cons e r=>
  simp only [List.map_cons,List.getD_cons_zero,Function.comp,keysP_get hk]
theorem fitB_of {l:List (List Int)} {n:Int} (h1:1≤l.length) (h2:l.length≤4096) (h:∀v∈l,vecB v=true∧(v.length:Int)=n):fitB l=true:=by
 have h0:=h _ (getD_mem (k:=0) (by omega:0 < l.length))
 simp only [fitB,Bool.and_eq_true,decide_eq_true_eq,Bool.not_eq_true',List.any_eq_false]
 refine ⟨h1,h2,fun v hv=>?_⟩
 obtain ⟨a,b⟩:=h v hv
 have:alikeB (l.getD 0 default) v=true:=by
  simp only [alikeB,h0.1,a,Bool.and_self,Bool.and_true,decide_eq_true_eq];omega
 rw [this];decide
theorem sum_tab {s:PSchema} {pv:List (List Int)} {l:List PEntry} (h:SumOK s pv l) (h0:0 < l.length) (h1:l.length≤4096) (hp:0 < pv.length):tabB s.metric pv (l.map (·.vec))=true:=by
 have f1:=fitB_of (by omega) (by have:=h.len;omega) h.piv
 have f2:fitB (l.map (·.vec))=true:=fitB_of (n:=s.dims) (by rw [List.length_map];omega) (by rw [List.length_map];omega) fun v hv=>by
  obtain ⟨e,he,rfl⟩:=List.mem_map.1 hv
  exact h.ent e he
 have p0:=h.piv _ (getD_mem hp)
 have e0:vecB ((l.map fun x:PEntry=>x.vec).getD 0 default)=true∧(((l.map fun x:PEntry=>x.vec).getD 0 default).length:Int)=s.dims:=by
  have hm:=getD_mem (l:=l.map fun x:PEntry=>x.vec) (k:=0) (by simpa using h0)
  obtain ⟨e,he,hq⟩:=List.mem_map.1 hm
  rw [←hq]
  exact h.ent e he
 simp only [tabB,pivotsB,h.met,f1,f2,Bool.true_and,alikeB,p0.1,e0.1,Bool.and_self,Bool.and_true,Bool.and_eq_true,decide_eq_true_eq]
 exact ⟨h.len,by omega⟩
theorem ofL_shells {s:PSchema} {pv:List (List Int)} {l:List PEntry} (h:SumOK s pv l) (h0:0 < l.length) (h1:l.length≤4096):(if 0 < pv.length then (shellP s.metric pv (l.map (·.vec))).1 else [])=pv.map fun p=>shK s p l:=by
 by_cases hp:0 < pv.length
 ·rw [if_pos hp,shellP,if_pos (sum_tab h h0 h1 hp)]
  simp only [shellL]
  rw [←range_getD pv fun p=>shK s p l]
  exact List.map_congr_left fun k hk=>colI_sh (by simpa using hk) h0
 ·rw [if_neg hp]
  cases pv with
  |nil=>rfl
  |cons a b=>simp at hp
theorem map_getD {α β:Type} [Inhabited α] [Inhabited β] {l:List α} (f:α→β) {k:Nat} (h:k < l.length):(l.map f).getD k default=f (l.getD k default):=by
 simp [List.getD_eq_getElem?_getD,h]
theorem joinS_map (pv:List (List Int)) (f g:List Int→PShell):joinS (pv.map f) (pv.map g)=pv.map fun p=>⟨min (min (f p).lo (g p).lo) (g p).hi,max (max (f p).hi (g p).lo) (g p).hi⟩:=by
 refine Eq.trans ?_ (range_getD pv fun p=>(⟨min (min (f p).lo (g p).lo) (g p).hi,max (max (f p).hi (g p).lo) (g p).hi⟩:PShell))
 rw [joinS,List.length_map]
 refine List.map_congr_left fun k hk=>?_
 have hk' : k < pv.length:=by simpa using hk
 rw [map_getD f hk',map_getD g hk']
theorem shellsB_map {pv:List (List Int)} {f:List Int→PShell} (h:pv.length≤8) (hf:∀p∈pv,shellB (f p)=true):shellsB (pv.map f)=true:=by
 simp only [shellsB,List.length_map,Bool.and_eq_true,decide_eq_true_eq,List.all_eq_true]
 refine ⟨fun x hx=>?_,h⟩
 obtain ⟨p,hp,rfl⟩:=List.mem_map.1 hx
 exact hf p hp
theorem tSt_snoc {l:List PEntry} {e:PEntry} (h:0 < l.length):tSt (l ++ [e])=tStep (tSt l) e:=by
 unfold tSt
 rw [List.foldl_append,getD_app h];rfl
theorem tSt_one (e:PEntry):tSt [e]=tOne e:=by simp [tSt,tStep,tOne,mnI_eq,mxI_eq]
theorem ofL_eq {s:PSchema} {pv:List (List Int)} {m:List PEntry} (h:SumOK s pv m) (hm:0 < m.length) (hl:m.length≤4096):ofL s pv m=⟨m.length,boxOfL (m.map (·.vec)),pv.map fun p=>shK s p m,(tSt m).fromLo,(tSt m).fromHi,(tSt m).toHi,(tSt m).bornLo,(tSt m).bornHi,s.defs.map fun d=>fieldOfP d m⟩:=by
 have hw:(boxOf (m.map (·.vec))).1=boxOfL (m.map (·.vec)):=by
  unfold boxOf
  rw [if_neg]
  rintro (h1|h1)
  ·simp only [List.length_map] at h1;omega
  ·rw [List.any_eq_true] at h1
   obtain ⟨v,hv,hq⟩:=h1
   obtain ⟨x,hx,rfl⟩:=List.mem_map.1 hv
   obtain ⟨a1,a2⟩:=h.ent x hx
   have hm0:=getD_mem (l:=m.map fun x:PEntry=>x.vec) (k:=0) (by simpa using hm)
   obtain ⟨y,hy,hz⟩:=List.mem_map.1 hm0
   obtain ⟨b1,b2⟩:=h.ent y hy
   unfold wrongB at hq
   rw [←hz,a1] at hq
   simp only [Bool.not_true,Bool.false_or,decide_eq_true_eq] at hq
   omega
 unfold ofL
 rw [ofL_shells h hm hl,hw]
theorem join_of {s:PSchema} {pv:List (List Int)} {l:List PEntry} {e:PEntry} (h:SumOK s pv (l ++ [e])) (h0:0 < l.length) (hl:l.length+1≤4096):joinSum joinR s (ofL s pv l) (singleP s pv e)=(ofL s pv (l ++ [e]),0):=by
 obtain ⟨e1,e2⟩:=h.last
 obtain ⟨⟨v1,v2⟩,-⟩:=vecB_get e1
 have hb:=sum_box e2 l h0 h.mono
 have hb2:boxB (boxOfL (l.map (·.vec)))=true:=hb.valid v1 v2
 have hb3:boxB ⟨e.vec,e.vec⟩=true:=(boxOK_vec e1).valid v1 v2
 rw [ofL_eq h.mono h0 (by omega),ofL_eq h (by simp) (by simpa using hl)]
 unfold joinSum singleP
 simp only
 rw [if_neg (by simp),if_neg (by omega)]
 congr 1
 congr 1
 ·simp
 ·simp only [boxJoin,hb2,hb3,Bool.true_and,hb.lo,decide_eq_true_eq]
  rw [if_pos trivial,List.map_append,List.map_cons,List.map_nil,boxOfL_snoc (by simpa using h0)]
 ·have s1:shellsB (pv.map fun p=>shK s p l)=true:=shellsB_map h.len fun p hp=>shK_ok hp l h0 h.mono
  have s2:shellsB (pv.map fun p=>(⟨keyV s.metric p e.vec,keyV s.metric p e.vec⟩:PShell))=true:=shellsB_map h.len fun p hp=>by
   have:=keyV_bound (m:=s.metric) (h.piv p hp).1 e1
   rw [shellB_iff];simp only;omega
  simp only [shJoin,s1,s2,Bool.true_and,List.length_map,decide_true,if_true]
  rw [joinS_map]
  refine List.map_congr_left fun p hp=>?_
  rw [shK_snoc h0]
  simp only [withP,PShell.mk.injEq]
  omega
 ·rw [tSt_snoc h0];rfl
 ·rw [tSt_snoc h0];rfl
 ·rw [tSt_snoc h0];rfl
 ·rw [tSt_snoc h0];rfl
 ·rw [tSt_snoc h0];rfl
 ·refine Eq.trans ?_ (range_getD s.defs fun d=>fieldOfP d (l ++ [e]))
  refine List.map_congr_left fun k hk=>?_
  have hk' : k < s.defs.length:=by simpa using hk
  rw [map_getD _ hk',map_getD _ hk',fieldOfP_snoc]
theorem ofL_one {s:PSchema} {pv:List (List Int)} {e:PEntry} (h:SumOK s pv [e]):ofL s pv [e]=singleP s pv e:=by
 obtain ⟨e1,e2⟩:=h.ent e (by simp)
 unfold ofL singleP
 rw [ofL_shells h (by simp) (by simp),tSt_one]
 congr 1
 ·simp only [List.map_cons,List.map_nil,boxOf,List.length_singleton,List.any_cons,List.any_nil,wrongB,List.getD_cons_zero,e1]
  simp [boxOfL]
 ·exact List.map_congr_left fun p _=>shK_one s p e
 ·exact List.map_congr_left fun d _=>fieldOfP_one d e
theorem refL_of {s:PSchema} {pv:List (List Int)} (l:List PEntry) (h0:0 < l.length) (h:SumOK s pv l) (hl:l.length≤4096):refL s pv l=ofL s pv l:=by
 revert h hl
 refine snoc_ind (P:=fun l=>SumOK s pv l→l.length≤4096→refL s pv l=ofL s pv l) (fun a h _=>?_) (fun l a h0 ih h hl=>?_) l h0
 ·rw [ofL_one h];rfl
 ·have hl' : l.length+1≤4096:=by simpa using hl
  have h1:=ih h.mono (by omega)
  have h2:refL s pv (l ++ [a])=(joinSum joinR s (refL s pv l) (singleP s pv a)).1:=by
   unfold refL
   rw [List.drop_append_of_le_length (by omega),List.foldl_append,getD_app h0];rfl
  rw [h2,h1,join_of h h0 hl']
theorem validV_B (v:List Int):validV v=vecB v:=by
 unfold validV vecB
 have:v.all (fun x=>decide (-1000≤x) && decide (x≤1000)) = !v.any farB:=by
  rw [Bool.eq_iff_iff]
  simp only [List.all_eq_true,Bool.and_eq_true,decide_eq_true_eq,Bool.not_eq_true',List.any_eq_false,farB,Bool.or_eq_true,not_or]
  constructor
  ·intro h x hx;have:=h x hx;omega
  ·intro h x hx;have:=h x hx;omega
 rw [this]
 cases (!v.any farB)<;>simp
theorem checkE_met {s:PSchema} (h:checkE s=0):keyB s.metric=true∧(1≤s.dims∧s.dims≤32)∧s.defs.length≤16:=by
 unfold checkE at h
 split at h
 ·simp at h
 ·rename_i h1
  split at h
  ·simp at h
  ·rename_i h2
   refine ⟨?_,by omega,by omega⟩
   simp only [keyB,Bool.and_eq_true,decide_eq_true_eq];omega
theorem entryE_vec {s:PSchema} {e:PEntry} (h:entryE s e=0):vecB e.vec=true∧(e.vec.length:Int)=s.dims:=by
 unfold entryE at h
 split at h
 ·simp at h
 ·split at h
  ·simp at h
  ·split at h
   ·simp at h
   ·rename_i h3
    simp only [not_or,validV_B,Bool.not_eq_false] at h3
    exact ⟨h3.1,by simpa using h3.2⟩
theorem wrongV_ok {s:PSchema} {pv:List (List Int)} (h:¬pv.any (wrongV s)=true):∀p∈pv,vecB p=true∧(p.length:Int)=s.dims:=by
 intro p hp
 rw [List.any_eq_true] at h
 have h1:¬wrongV s p=true:=fun e=>h ⟨p,hp,e⟩
 unfold wrongV at h1
 cases e:vecB p with
 |false=>rw [e] at h1;simp at h1
 |true=>rw [e] at h1;simpa using h1
theorem sumOK_of {s:PSchema} {pv:List (List Int)} {l:List PEntry} (hc:checkE s=0) (h8:¬8 < pv.length) (hw:¬pv.any (wrongV s)=true) (he:∀e∈l,entryE s e=0):SumOK s pv l:=
 ⟨(checkE_met hc).1,by omega,wrongV_ok hw,fun e h=>entryE_vec (he e h)⟩
theorem zOf_ref (s:PSchema) (pv:List (List Int)) (l:List PEntry):zOf s pv l=refOf s pv l:=by
 unfold zOf refOf
 by_cases h1:checkE s≠0∨8 < pv.length∨pv.any (wrongV s)=true
 ·rw [if_pos h1,if_pos h1]
 ·rw [if_neg h1,if_neg h1]
  simp only [not_or,Classical.not_not] at h1
  obtain ⟨hc,h8,hw⟩:=h1
  have e:(l.any fun e=>decide (entryA s e≠0))=(l.any fun e=>decide (entryE s e≠0)):=by
   congr 1;funext e;rw [entryA_E hc]
  rw [e]
  by_cases h2:(l.any fun e=>decide (entryE s e≠0))=true∨l.length=0
  ·rw [if_pos h2,if_pos h2.symm]
  ·rw [if_neg h2,if_neg fun h=>h2 h.symm]
   by_cases h3:4096 < l.length
   ·rw [if_pos h3,if_pos h3]
   ·rw [if_neg h3,if_neg h3]
    simp only [not_or] at h2
    have he:∀e∈l,entryE s e=0:=fun e h=>by
     by_cases q:entryE s e=0
     ·exact q
     ·exact absurd (List.any_eq_true.2 ⟨e,h,by simpa using q⟩) h2.1
    rw [refL_of l (by omega) (sumOK_of hc h8 hw he) (by omega)]
def dshK (S:PSrc):Nat→List PShell×PSrc
 |0=>([],S)
 |k+1=>((dshK S k).1 ++ [⟨(numS (dshK S k).2).1,(numS (numS (dshK S k).2).2).1⟩],(numS (numS (dshK S k).2).2).2)
def dfl1 (S:PSrc):PField×PSrc:=
 (⟨(numS S).1,(numS (numS S).2).1,(numS (numS (numS S).2).2).1,(cntS (numS (numS (numS S).2).2).2 (numS (numS (numS S).2).2).2.w.length).2.w.take (cntS (numS (numS (numS S).2).2).2 (numS (numS (numS S).2).2).2.w.length).1.toNat⟩,
  ⟨(cntS (numS (numS (numS S).2).2).2 (numS (numS (numS S).2).2).2.w.length).2.n,(cntS (numS (numS (numS S).2).2).2 (numS (numS (numS S).2).2).2.w.length).2.w.drop (cntS (numS (numS (numS S).2).2).2 (numS (numS (numS S).2).2).2.w.length).1.toNat,(cntS (numS (numS (numS S).2).2).2 (numS (numS (numS S).2).2).2.w.length).2.bad⟩)
def dflK (S:PSrc):Nat→List PField×PSrc
 |0=>([],S)
 |k+1=>((dflK S k).1 ++ [(dfl1 (dflK S k).2).1],(dfl1 (dflK S k).2).2)
theorem numS_good {S T:PSrc} {x:Int} (e:numS S=(x,T)) (h:T.bad=false):S.bad=false∧S.n=x :: T.n∧T.w=S.w:=by
 unfold numS at e
 split at e
 ·rw [Prod.mk.injEq] at e
  rw [←e.2] at h
  cases h
 ·rename_i h0
  rw [Prod.mk.injEq] at e
  obtain ⟨n,w,bad⟩:=S
  simp only [not_or] at h0
  obtain ⟨rfl,rfl⟩:=e
  match n,h0 with
  |a :: r,h0=>exact ⟨by simpa using h0.1,rfl,rfl⟩
theorem cntS_good {S T:PSrc} {x l:Int} (e:cntS S l=(x,T)) (h:T.bad=false):S.bad=false∧S.n=x :: T.n∧T.w=S.w∧0≤x∧x≤l:=by
 unfold cntS at e
 split at e
 ·rw [Prod.mk.injEq] at e
  rw [←e.2] at h
  cases h
 ·rename_i h0
  simp only [not_or] at h0
  rw [Prod.mk.injEq] at e
  obtain ⟨e1,e2⟩:=e
  obtain ⟨a,b,c⟩:=numS_good (S:=S) (x:=(numS S).1) (T:=(numS S).2) rfl (by simpa using h0.1)
  rw [←e2,←e1]
  exact ⟨a,b,c,by omega,by omega⟩
theorem numS_goodE {S:PSrc} (h:(numS S).2.bad=false):S.bad=false∧S.n=(numS S).1 :: (numS S).2.n∧(numS S).2.w=S.w:=
 numS_good (x:=(numS S).1) (T:=(numS S).2) (by rfl) h
theorem cntS_goodE {S:PSrc} {l:Int} (h:(cntS S l).2.bad=false):S.bad=false∧S.n=(cntS S l).1 :: (cntS S l).2.n∧(cntS S l).2.w=S.w∧0≤(cntS S l).1∧(cntS S l).1≤l:=
 cntS_good (x:=(cntS S l).1) (T:=(cntS S l).2) (by rfl) h
theorem lstK_good (S:PSrc):∀k,(lstK S k).2.bad=false→S.bad=false∧S.n=(lstK S k).1 ++ (lstK S k).2.n∧(lstK S k).2.w=S.w
 |0,h=>⟨h,rfl,rfl⟩
 |k+1,h=>by
  rw [lstK] at h ⊢
  obtain ⟨a,b,c⟩:=numS_good (S:=(lstK S k).2) (x:=(numS (lstK S k).2).1) (T:=(numS (lstK S k).2).2) rfl h
  obtain ⟨i1,i2,i3⟩:=lstK_good S k a
  refine ⟨i1,?_,c.trans i3⟩
  rw [i2,b];simp
theorem lstS_good {S T:PSrc} {l:List Int} (e:lstS S=(l,T)) (h:T.bad=false):S.bad=false∧S.n=(l.length:Int) :: l ++ T.n∧T.w=S.w:=by
 have e1:(lstS S).1=l:=by rw [e]
 have e2:(lstS S).2=T:=by rw [e]
 unfold lstS at e1 e2
 rw [←e2] at h
 obtain ⟨a,b,c⟩:=lstK_good _ _ h
 obtain ⟨f,g,i,j1,j2⟩:=cntS_good (S:=S) (l:=S.n.length) (x:=(cntS S S.n.length).1) (T:=(cntS S S.n.length).2) rfl a
 have hl:=(lstK_len (cntS S S.n.length).2 (cntS S S.n.length).1.toNat).2.2
 rw [e1] at hl b
 rw [e2] at b c
 refine ⟨f,?_,c.trans i⟩
 rw [g,b,hl,Int.toNat_of_nonneg j1];rfl
theorem dshK_len (S:PSrc):∀k,(dshK S k).1.length=k∧(dshK S k).2.n.length≤S.n.length∧(dshK S k).2.w=S.w
 |0=>⟨rfl,Nat.le_refl _,rfl⟩
 |k+1=>by
  obtain ⟨h1,h2,h3⟩:=dshK_len S k
  obtain ⟨a1,a2⟩:=numS_len (dshK S k).2
  obtain ⟨b1,b2⟩:=numS_len (numS (dshK S k).2).2
  rw [dshK]
  exact ⟨by rw [List.length_append,h1];rfl,Nat.le_trans b1 (Nat.le_trans a1 h2),b2.trans (a2.trans h3)⟩
theorem dshK_good (S:PSrc):∀k,(dshK S k).2.bad=false→S.bad=false∧S.n=shN (dshK S k).1 ++ (dshK S k).2.n∧(dshK S k).2.w=S.w
 |0,h=>⟨h,rfl,rfl⟩
 |k+1,h=>by
  rw [dshK] at h ⊢
  obtain ⟨a,b,c⟩:=numS_good (S:=(numS (dshK S k).2).2) (x:=(numS (numS (dshK S k).2).2).1) (T:=(numS (numS (dshK S k).2).2).2) rfl h
  obtain ⟨a2,b2,c2⟩:=numS_good (S:=(dshK S k).2) (x:=(numS (dshK S k).2).1) (T:=(numS (dshK S k).2).2) rfl a
  obtain ⟨i1,i2,i3⟩:=dshK_good S k a2
  refine ⟨i1,?_,c.trans (c2.trans i3)⟩
  rw [i2,b2,b];simp [shN]
theorem dfl1_len (S:PSrc):(dfl1 S).2.n.length≤S.n.length∧(dfl1 S).2.w.length≤S.w.length∧(dfl1 S).1.words.length≤S.w.length:=by
 obtain ⟨a1,a2⟩:=numS_len S
 obtain ⟨b1,b2⟩:=numS_len (numS S).2
 obtain ⟨c1,c2⟩:=numS_len (numS (numS S).2).2
 obtain ⟨d1,d2⟩:=cntS_len (numS (numS (numS S).2).2).2 (numS (numS (numS S).2).2).2.w.length
 unfold dfl1
 refine ⟨Nat.le_trans d1 (Nat.le_trans c1 (Nat.le_trans b1 a1)),?_,?_⟩
 ·simp only
  rw [List.length_drop,d2,c2,b2,a2]
  omega
 ·simp only
  rw [List.length_take,d2,c2,b2,a2]
  omega
theorem dflK_len (S:PSrc):∀k,(dflK S k).1.length=k∧(dflK S k).2.n.length≤S.n.length∧(dflK S k).2.w.length≤S.w.length
 |0=>⟨rfl,Nat.le_refl _,Nat.le_refl _⟩
 |k+1=>by
  obtain ⟨h1,h2,h3⟩:=dflK_len S k
  obtain ⟨a1,a2,-⟩:=dfl1_len (dflK S k).2
  rw [dflK]
  exact ⟨by rw [List.length_append,h1];rfl,Nat.le_trans a1 h2,Nat.le_trans a2 h3⟩
theorem dfl1_good {S:PSrc} (h:(dfl1 S).2.bad=false):S.bad=false∧S.n=flN [(dfl1 S).1] ++ (dfl1 S).2.n∧S.w=(dfl1 S).1.words ++ (dfl1 S).2.w:=by
 have hd:(cntS (numS (numS (numS S).2).2).2 (numS (numS (numS S).2).2).2.w.length).2.bad=false:=h
 obtain ⟨d1,d2,d3,d4,d5⟩:=cntS_goodE hd
 obtain ⟨c1,c2,c3⟩:=numS_goodE d1
 obtain ⟨b1,b2,b3⟩:=numS_goodE c1
 obtain ⟨a1,a2,a3⟩:=numS_goodE b1
 have hw:(dfl1 S).1.words.length=(cntS (numS (numS (numS S).2).2).2 (numS (numS (numS S).2).2).2.w.length).1.toNat:=by
  unfold dfl1
  simp only [List.length_take]
  rw [d3];omega
 refine ⟨a1,?_,?_⟩
 ·simp only [flN,List.flatMap_cons,List.flatMap_nil,List.append_nil,hw]
  rw [Int.toNat_of_nonneg d4,a2,b2,c2,d2];rfl
 ·rw [←a3,←b3,←c3,←d3]
  exact (List.take_append_drop _ _).symm
theorem dflK_good (S:PSrc):∀k,(dflK S k).2.bad=false→S.bad=false∧S.n=flN (dflK S k).1 ++ (dflK S k).2.n∧S.w=flW (dflK S k).1 ++ (dflK S k).2.w
 |0,h=>⟨h,rfl,rfl⟩
 |k+1,h=>by
  rw [dflK] at h ⊢
  obtain ⟨a,b,c⟩:=dfl1_good h
  obtain ⟨i1,i2,i3⟩:=dflK_good S k a
  refine ⟨i1,?_,?_⟩
  ·rw [i2,b];simp [flN]
  ·rw [i3,c];simp [flW]
theorem numS_take (x:Int) (n:List Int) (w:List ByteArray):numS ⟨x :: n,w,false⟩=(x,⟨n,w,false⟩):=by
 unfold numS
 rw [if_neg (by simp)];rfl
theorem cntS_take {x l:Int} (n:List Int) (w:List ByteArray) (h0:0≤x) (h1:x≤l):cntS ⟨x :: n,w,false⟩ l=(x,⟨n,w,false⟩):=by
 unfold cntS
 rw [numS_take,if_neg (by simp;omega)]
theorem lstK_take (w:List ByteArray) (r:List Int) (l:List Int):∀k,k≤l.length→lstK ⟨l ++ r,w,false⟩ k=(l.take k,⟨l.drop k ++ r,w,false⟩)
 |0,_=>by rw [lstK];simp
 |k+1,h=>by
  rw [lstK,lstK_take w r l k (by omega)]
  simp only
  rw [List.drop_eq_getElem_cons (by omega),List.cons_append,numS_take]
  simp only [List.take_add_one,List.getElem?_eq_getElem (show k < l.length by omega),Option.toList_some]
theorem lstS_take (w:List ByteArray) (l r:List Int):lstS ⟨(l.length:Int) :: (l ++ r),w,false⟩=(l,⟨r,w,false⟩):=by
 unfold lstS
 rw [cntS_take _ _ (by omega) (by simp only [List.length_cons,List.length_append];omega)]
 simp only [Int.toNat_natCast]
 rw [lstK_take w r l _ (Nat.le_refl _)]
 simp
theorem dshK_take (w:List ByteArray) (r:List Int) (l:List PShell):∀k,k≤l.length→dshK ⟨shN l ++ r,w,false⟩ k=(l.take k,⟨shN (l.drop k) ++ r,w,false⟩)
 |0,_=>by rw [dshK];simp
 |k+1,h=>by
  rw [dshK,dshK_take w r l k (by omega)]
  simp only
  rw [List.drop_eq_getElem_cons (by omega)]
  have e:shN (l[k] :: l.drop (k+1)) ++ r=l[k].lo :: l[k].hi :: (shN (l.drop (k+1)) ++ r):=by simp only [shN,List.flatMap_cons,List.cons_append,List.nil_append]
  rw [e,numS_take]
  simp only
  rw [numS_take]
  simp only [List.take_add_one,List.getElem?_eq_getElem (show k < l.length by omega),Option.toList_some]
theorem dfl1_take (f:PField) (r:List Int) (v:List ByteArray):dfl1 ⟨f.has :: f.lo :: f.hi :: (f.words.length:Int) :: r,f.words ++ v,false⟩=(f,⟨r,v,false⟩):=by
 unfold dfl1
 simp only [numS_take]
 rw [cntS_take _ _ (by omega) (by simp only [List.length_append];omega)]
 simp
theorem dflK_take (r:List Int) (v:List ByteArray) (l:List PField):∀k,k≤l.length→dflK ⟨flN l ++ r,flW l ++ v,false⟩ k=(l.take k,⟨flN (l.drop k) ++ r,flW (l.drop k) ++ v,false⟩)
 |0,_=>by rw [dflK];simp
 |k+1,h=>by
  rw [dflK,dflK_take r v l k (by omega)]
  simp only
  rw [List.drop_eq_getElem_cons (by omega)]
  have e:flN (l[k] :: l.drop (k+1)) ++ r=l[k].has :: l[k].lo :: l[k].hi :: (l[k].words.length:Int) :: (flN (l.drop (k+1)) ++ r):=by simp only [flN,List.flatMap_cons,List.cons_append,List.nil_append]
  have e2:flW (l[k] :: l.drop (k+1)) ++ v=l[k].words ++ (flW (l.drop (k+1)) ++ v):=by simp only [flW,List.flatMap_cons,List.append_assoc]
  rw [e,e2,dfl1_take]
  simp only [List.take_add_one,List.getElem?_eq_getElem (show k < l.length by omega),Option.toList_some]
def decM (S:PSrc):PSum×PSrc:=
 let a1:=numS S
 let a2:=numS a1.2
 let a3:=numS a2.2
 let a4:=numS a3.2
 let a5:=numS a4.2
 let a6:=numS a5.2
 let lo:=lstS a6.2
 let hi:=lstS lo.2
 let c:=cntS hi.2 hi.2.n.length
 let sh:=dshK c.2 c.1.toNat
 let d:=cntS sh.2 sh.2.n.length
 let fl:=dflK d.2 d.1.toNat
 (⟨a1.1,⟨lo.1,hi.1⟩,sh.1,a2.1,a3.1,a4.1,a5.1,a6.1,fl.1⟩,fl.2)
theorem decM_good {S:PSrc} (h:(decM S).2.bad=false):S.bad=false∧S.n=numsZ (decM S).1 ++ (decM S).2.n∧S.w=flW (decM S).1.fields ++ (decM S).2.w:=by
 have e:decM S=decM S:=rfl
 unfold decM at h ⊢
 simp only at h ⊢
 generalize e1:numS S=a1 at *
 generalize e2:numS a1.2=a2 at *
 generalize e3:numS a2.2=a3 at *
 generalize e4:numS a3.2=a4 at *
 generalize e5:numS a4.2=a5 at *
 generalize e6:numS a5.2=a6 at *
 generalize e7:lstS a6.2=lo at *
 generalize e8:lstS lo.2=hi at *
 generalize e9:cntS hi.2 hi.2.n.length=c at *
 generalize e10:cntS (dshK c.2 c.1.toNat).2 (dshK c.2 c.1.toNat).2.n.length=d at *
 clear e
 have f1:=dflK_good d.2 d.1.toNat h
 have f2:=cntS_good (x:=d.1) (T:=d.2) e10 f1.1
 have f3:=dshK_good c.2 c.1.toNat f2.1
 have f4:=cntS_good (x:=c.1) (T:=c.2) e9 f3.1
 have f5:=lstS_good (l:=hi.1) (T:=hi.2) e8 f4.1
 have f6:=lstS_good (l:=lo.1) (T:=lo.2) e7 f5.1
 have g6:=numS_good (x:=a6.1) (T:=a6.2) e6 f6.1
 have g5:=numS_good (x:=a5.1) (T:=a5.2) e5 g6.1
 have g4:=numS_good (x:=a4.1) (T:=a4.2) e4 g5.1
 have g3:=numS_good (x:=a3.1) (T:=a3.2) e3 g4.1
 have g2:=numS_good (x:=a2.1) (T:=a2.2) e2 g3.1
 have g1:=numS_good (x:=a1.1) (T:=a1.2) e1 g2.1
 have l1:=(dshK_len c.2 c.1.toNat).1
 have l2:=(dflK_len d.2 d.1.toNat).1
 have n1:((dshK c.2 c.1.toNat).1.length:Int)=c.1:=by rw [l1];exact Int.toNat_of_nonneg f4.2.2.2.1
 have n2:((dflK d.2 d.1.toNat).1.length:Int)=d.1:=by rw [l2];exact Int.toNat_of_nonneg f2.2.2.2.1
 refine ⟨g1.1,?_,?_⟩
 ·unfold numsZ boxN headZ
  simp only [n1,n2]
  rw [g1.2.1,g2.2.1,g3.2.1,g4.2.1,g5.2.1,g6.2.1,f6.2.1,f5.2.1,f4.2.1,f3.2.1,f2.2.1,f1.2.1]
  simp
 ·rw [←g1.2.2,←g2.2.2,←g3.2.2,←g4.2.2,←g5.2.2,←g6.2.2,←f6.2.2,←f5.2.2,←f4.2.2.1,←f3.2.2,←f2.2.2.1]
  exact f1.2.2
theorem decM_take (z:PSum):decM ⟨numsZ z,flW z.fields,false⟩=(z,⟨[],[],false⟩):=by
 have e:numsZ z=z.count :: z.fromLo :: z.fromHi :: z.toHi :: z.bornLo :: z.bornHi :: (z.box.lo.length:Int) :: (z.box.lo ++ ((z.box.hi.length:Int) :: (z.box.hi ++ ((z.shells.length:Int) :: (shN z.shells ++ ((z.fields.length:Int) :: (flN z.fields ++ []))))))):=by
  simp [numsZ,boxN,headZ]
 have h1:=shN_len z.shells
 have h2:=flN_len z.fields
 unfold decM
 rw [e]
 simp only [numS_take,lstS_take]
 rw [cntS_take _ _ (by omega) (by simp only [List.length_cons,List.length_append,List.append_nil];omega)]
 simp only [Int.toNat_natCast]
 rw [dshK_take _ _ _ _ (Nat.le_refl _)]
 simp only [List.take_length,List.drop_length]
 rw [show shN [] = [] from rfl,List.nil_append,cntS_take _ _ (by omega) (by simp only [List.length_cons,List.length_append,List.append_nil];omega)]
 simp only [Int.toNat_natCast]
 have h3:=dflK_take [] [] z.fields z.fields.length (Nat.le_refl _)
 simp only [List.append_nil] at h3 ⊢
 rw [h3]
 simp [flN,flW]
def finZ (r:PSum×PSrc):PSum×Int:=if r.2.bad=true∨0 < r.2.n.length+r.2.w.length then (zeroZ,11) else (r.1,0)
def decZ (bs:List Int):PSum×Int:=
 match getInts bs with
 |(n,u,e)=>if e≠0 then (zeroZ,e) else match getStrs (bs.drop u.toNat) with
  |(w,u2,e2)=>if e2≠0 then (zeroZ,e2) else finZ (decM ⟨n,w,decide (u+u2≠bs.length)⟩)
end
end Go.Proofs.YtoamkpgaaanafaaGreat
