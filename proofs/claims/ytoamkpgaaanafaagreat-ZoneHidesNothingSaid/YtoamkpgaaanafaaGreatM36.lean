/- Out of: Zv, Ya, Yb, Yc, Ud, OpensR, Wb, Wh. -/
import Derived.Test.YtoamkpgaaanafaaGreatM28
import Derived.Test.YtoamkpgaaanafaaGreatM31
import Derived.Test.YtoamkpgaaanafaaGreatM32
import Derived.Test.YtoamkpgaaanafaaGreatM34
namespace Go.Proofs.YtoamkpgaaanafaaGreat
set_option linter.unusedSimpArgs false
set_option linter.unusedVariables false
set_option linter.unnecessarySimpa false
section
open Go.RowKit
structure FSt where
 has:Int
 lo:Int
 hi:Int
 ks:List ByteArray
noncomputable def fldStep (d:PDef) (st:FSt) (e:PEntry):FSt:=
 if (getA e.attrs d.name).2=false then st
 else ⟨st.has+1,min (if st.has=0 then (getA e.attrs d.name).1.n else st.lo) (getA e.attrs d.name).1.n,max (if st.has=0 then (getA e.attrs d.name).1.n else st.hi) (getA e.attrs d.name).1.n,
  if d.kind=2 then addK st.ks (getA e.attrs d.name).1.s else st.ks⟩
noncomputable def fldSt (d:PDef) (l:List PEntry):FSt:=l.foldl (fldStep d) ⟨0,0,0,[]⟩
noncomputable def fieldOfP (d:PDef) (l:List PEntry):PField:=⟨(fldSt d l).has,(fldSt d l).lo,(fldSt d l).hi,sortS (fldSt d l).ks⟩
theorem fldSt_succ {d:PDef} {l:List PEntry} {k:Nat} (h:k < l.length):fldSt d (l.take (k+1))=fldStep d (fldSt d (l.take k)) (l.getD k default):=by
 unfold fldSt
 rw [List.take_add_one,List.foldl_append,List.getElem?_eq_getElem h]
 simp [h]
theorem getA_size {l:List PAttr} {nm:ByteArray} (h:∀a∈l,a.s.size≤1000000000):(getA l nm).1.s.size≤1000000000:=by
 induction l with
 |nil=>simp [getA,zeroA]
 |cons a r ih=>
  unfold getA
  split
  ·exact h a (by simp)
  ·exact ih fun x hx=>h x (by simp [hx])
def FOK (st:FSt) (k:Nat):Prop:=0≤st.has∧st.has≤k∧st.ks.Nodup∧st.ks.length≤k∧∀x∈st.ks,x.size≤1000000000
theorem fldStep_ok {d:PDef} {st:FSt} {e:PEntry} {k:Nat} (h:FOK st k) (he:∀a∈e.attrs,a.s.size≤1000000000):FOK (fldStep d st e) (k+1):=by
 obtain ⟨h1,h2,h3,h4,h5⟩:=h
 unfold fldStep
 split
 ·exact ⟨h1,by omega,h3,by omega,h5⟩
 ·refine ⟨by simp only;omega,by simp only;omega,?_,?_,?_⟩
  ·simp only;split
   ·exact addK_nodup _ h3
   ·exact h3
  ·simp only;split
   ·have:=addK_len st.ks (getA e.attrs d.name).1.s;omega
   ·omega
  ·simp only;split
   ·intro x hx
    rcases addK_mem.1 hx with h|rfl
    ·exact h5 x h
    ·exact getA_size he
   ·exact h5
theorem fldSt_ok {d:PDef} {l:List PEntry} (he:∀k,k < l.length→∀a∈(l.getD k default).attrs,a.s.size≤1000000000):∀k,k≤l.length→FOK (fldSt d (l.take k)) k
 |0,_=>⟨by simp [fldSt],by simp [fldSt],by simp [fldSt],by simp [fldSt],by simp [fldSt]⟩
 |k+1,h=>by
  rw [fldSt_succ (by omega)]
  exact fldStep_ok (fldSt_ok he k (by omega)) (he k (by omega))
def fstL (st:FSt):List PV := [pint st.has,pint st.lo,pint st.hi, .nilsl]
theorem low_fstL (st:FSt):∀c∈fstL st,Low c:=by
 intro c hc
 simp only [fstL,List.mem_cons,List.not_mem_nil,or_false] at hc
 rcases hc with rfl|rfl|rfl|rfl
 ·exact .val _
 ·exact .val _
 ·exact .val _
 ·exact .nilsl
set_option maxRecDepth 10000 in
set_option maxHeartbeats 4000000 in
theorem pw_fieldOf (d:PDef) (l:List PEntry) (hl:l.length≤1000000) (ha:∀k,k < l.length→(l.getD k default).attrs.length≤1000000) (he:∀k,k < l.length→∀a∈(l.getD k default).attrs,a.s.size≤1000000000):PCalls Tryz.prog 60 [.agg (pdefL d),pentries l] (· = pfld (fieldOfP d l)):=by
 have hld:=low_pdefL d
 have hld1:Low (.ep (pdefL d) 0):=.ep _ _ hld
 have hlow:∀x,Low (pentries x):=fun x=>(low_pentries x).2 trivial
 have hlf:=low_fstL
 have hf0:=low_fstL ⟨0,0,0,[]⟩
 have hf1:=low_fstL (fldSt d (l.take 0))
 have hlowm:∀ks,∀e∈smE ks,Low e.2.1∧Low e.2.2:=fun ks e h=>by
  obtain ⟨x,-,rfl⟩:=List.mem_map.1 h
  exact ⟨.val _, .val _⟩
 refine pcalls_of_pw typeTab_ok Tryz.func60 rfl (by kernel_rfl) (by simp [low_pdef,low_pentries]) (by simp [pdefL,pentries,PV.ownB]) (by rw [Tryz.ntmps60];simp) ?_
 rw [Tryz.ntmps60,Tryz.results60]
 refine PW.seq ?_
 refine PW.region typeTab_ok (by kernel_rfl) ?_
 refine wg ?_
 refine PW.freezeP (id:=0) (s:=2) (off:=0) (σ':=(((bot.setb 1 (fstL ⟨0,0,0,[]⟩)).put 1 (pentries l)).put 4 (.ptr 1 0))) rfl rfl hld (by exact sbr0) rfl ?_
 refine wk ?_
 refine PWops.mkMG rfl rfl rfl rfl ?_
 refine wk ?_
 refine PW.loop (fun k:Nat=>(((((((((((bot.setb 1 (fstL ⟨0,0,0,[]⟩)).setb 1000 (fstL (fldSt d (l.take k)))).setm 2000 (smL (fldSt d (l.take k)).ks)).put 2 (.ep (pdefL d) 0)).put 4 (.ptr 1 0)).put 5 (.ptr 1000 0)).put 6 (.mref 2000)).put 12 (pentries l)).put 13 (pint l.length)).put 14 (pint k)))) (fun k=>k≤l.length) (fun k=>l.length - k) 0 (by omega) ?_ ?_
 ·exact sb
 ·intro k hk
  have hf1:=low_fstL (fldSt d (l.take k))
  obtain ⟨o1,o2,o3,o4,o5⟩:=fldSt_ok (d:=d) he k hk
  by_cases hlt:k < l.length
  ·have p1:=pcGet (l.getD k default).attrs d.name (ha k hlt)
   have hst:=fldSt_succ (d:=d) hlt
   have hle:=low_entCells (l.getD k default)
   have hla:=low_pattrL2 (getA (l.getD k default).attrs d.name).1
   generalize fldSt d (l.take k)=st at *
   have hlf1:=low_fstL (fldSt d (l.take (k+1)))
   cases q0:(getA (l.getD k default).attrs d.name).2 with
   |false=>
    rw [q0] at p1
    have hst' : fldSt d (l.take (k+1))=st:=by rw [hst,fldStep,if_pos q0]
    refine wk ?_
    refine loopP (k+1) (by omega) (by omega) ?_
    rw [hst'] at hlf1
    simp only [hst']
    exact sb
   |true=>
    rw [q0] at p1
    refine wk ?_
    by_cases q1:st.has=0
    ·refine wg ?_
     refine PW.drawE typeTab_ok (by kernel_rfl) (by kernel_rfl) (by kernel_rfl) ?_
     refine wg ?_
     refine PW.drawE typeTab_ok (by kernel_rfl) (by kernel_rfl) (by kernel_rfl) ?_
     refine wg ?_
     simp only [Bool.false_eq_true,if_false,if_true,ite_self]
     by_cases q2:d.kind=2
     ·have hst' : fldSt d (l.take (k+1))=⟨st.has+1,(getA (l.getD k default).attrs d.name).1.n,(getA (l.getD k default).attrs d.name).1.n,addK st.ks (getA (l.getD k default).attrs d.name).1.s⟩:=by
       rw [hst,fldStep,if_neg (by rw [q0];decide),if_pos q2]
       simp only [q1,if_true,if_false,Int.min_self,Int.max_self]
      refine wk ?_
      refine PWops.mput rfl rfl rfl rfl rfl rfl rfl rfl rfl rfl rfl rfl (sm_mput _ _ rfl) ?_
      refine wk ?_
      refine loopP (k+1) (by omega) (by omega) ?_
      rw [hst'] at hlf1
      simp only [hst']
      exact sb
     ·have hst' : fldSt d (l.take (k+1))=⟨st.has+1,(getA (l.getD k default).attrs d.name).1.n,(getA (l.getD k default).attrs d.name).1.n,st.ks⟩:=by
       rw [hst,fldStep,if_neg (by rw [q0];decide),if_neg q2]
       simp only [q1,if_true,if_false,Int.min_self,Int.max_self]
      refine wk ?_
      refine loopP (k+1) (by omega) (by omega) ?_
      rw [hst'] at hlf1
      simp only [hst']
      exact sb
    ·refine wg ?_
     refine PW.drawE typeTab_ok (by kernel_rfl) (by kernel_rfl) (by kernel_rfl) ?_
     refine wg ?_
     simp only [Bool.false_eq_true,if_false,if_true]
     rw [show (if (getA (l.getD k default).attrs d.name).1.n < st.lo then (getA (l.getD k default).attrs d.name).1.n else st.lo)=min st.lo (getA (l.getD k default).attrs d.name).1.n from by split<;>omega,show (if (getA (l.getD k default).attrs d.name).1.n > st.hi then (getA (l.getD k default).attrs d.name).1.n else st.hi)=max st.hi (getA (l.getD k default).attrs d.name).1.n from by split<;>omega]
     by_cases q2:d.kind=2
     ·have hst' : fldSt d (l.take (k+1))=⟨st.has+1,min st.lo (getA (l.getD k default).attrs d.name).1.n,max st.hi (getA (l.getD k default).attrs d.name).1.n,addK st.ks (getA (l.getD k default).attrs d.name).1.s⟩:=by
       rw [hst,fldStep,if_neg (by rw [q0];decide),if_pos q2]
       simp only [q1,if_true,if_false,Int.min_self,Int.max_self]
      refine wk ?_
      refine PWops.mput rfl rfl rfl rfl rfl rfl rfl rfl rfl rfl rfl rfl (sm_mput _ _ rfl) ?_
      refine wk ?_
      refine loopP (k+1) (by omega) (by omega) ?_
      rw [hst'] at hlf1
      simp only [hst']
      exact sb
     ·have hst' : fldSt d (l.take (k+1))=⟨st.has+1,min st.lo (getA (l.getD k default).attrs d.name).1.n,max st.hi (getA (l.getD k default).attrs d.name).1.n,st.ks⟩:=by
       rw [hst,fldStep,if_neg (by rw [q0];decide),if_neg q2]
       simp only [q1,if_true,if_false,Int.min_self,Int.max_self]
      refine wk ?_
      refine loopP (k+1) (by omega) (by omega) ?_
      rw [hst'] at hlf1
      simp only [hst']
      exact sb
  ·have hkk:k=l.length:=by omega
   have hfin:fieldOfP d l=⟨(fldSt d (l.take k)).has,(fldSt d (l.take k)).lo,(fldSt d (l.take k)).hi,sortS (fldSt d (l.take k)).ks⟩:=by
    rw [hkk,List.take_length];rfl
   rw [hfin]
   generalize fldSt d (l.take k)=st at *
   have H:=hc_sorted st.ks o3 (by omega) o5 2000
   refine wk ?_
   exact retP (r:=pfld ⟨st.has,st.lo,st.hi,sortS st.ks⟩) rfl ((low_pfld _).2 trivial) rfl
def mnI (n y:Int):Int:=if y < n then y else n
def mxI (n y:Int):Int:=if y > n then y else n
theorem mnI_eq (n y:Int):mnI n y=min n y:=by unfold mnI;split<;>omega
theorem mxI_eq (n y:Int):mxI n y=max n y:=by unfold mxI;split<;>omega
def fldOne (d:PDef) (e:PEntry):PField:=if (getA e.attrs d.name).2=true then ⟨1,(getA e.attrs d.name).1.n,(getA e.attrs d.name).1.n,if d.kind=2 then [(getA e.attrs d.name).1.s] else []⟩ else ⟨0,0,0,[]⟩
def joinR (a b:PField):PField:=if a.has=0 then b else if b.has=0 then a else ⟨a.has+b.has,mnI a.lo b.lo,mxI a.hi b.hi,mergeW a.words b.words⟩
structure FieldOK (f:PField):Prop where
 has:0≤f.has
 none:f.has=0→f.lo=0∧f.hi=0∧f.words = []
 asc:Asc f.words
theorem fldOne_ok (d:PDef) (e:PEntry):FieldOK (fldOne d e):=by
 unfold fldOne
 split
 ·refine ⟨by simp,fun h=>by simp at h,?_⟩
  simp only;split
  ·exact asc_one _
  ·exact asc_nil
 ·exact ⟨by simp,fun _=>⟨rfl,rfl,rfl⟩,asc_nil⟩
def FInv (st:FSt):Prop:=0≤st.has∧st.ks.Nodup∧(st.has=0→st.lo=0∧st.hi=0∧st.ks = [])
theorem fldStep_inv {d:PDef} {st:FSt} {e:PEntry} (h:FInv st):FInv (fldStep d st e):=by
 obtain ⟨h1,h2,h3⟩:=h
 unfold fldStep
 split
 ·exact ⟨h1,h2,h3⟩
 ·refine ⟨by simp only;omega,?_,fun h=>by simp only at h;omega⟩
  simp only;split
  ·exact addK_nodup _ h2
  ·exact h2
theorem foldl_inv {d:PDef} (l:List PEntry):∀st,FInv st→FInv (l.foldl (fldStep d) st):=by
 induction l with
 |nil=>exact fun st h=>h
 |cons a r ih=>exact fun st h=>ih _ (fldStep_inv h)
theorem fldSt_inv (d:PDef) (l:List PEntry):FInv (fldSt d l):=foldl_inv l _ ⟨by simp, .nil,fun _=>⟨rfl,rfl,rfl⟩⟩
theorem fieldOfP_nil (d:PDef):fieldOfP d []=⟨0,0,0,[]⟩:=by simp [fieldOfP,fldSt,sortS_nil]
theorem fieldOfP_snoc (d:PDef) (l:List PEntry) (e:PEntry):fieldOfP d (l ++ [e])=joinR (fieldOfP d l) (fldOne d e):=by
 have hi:=fldSt_inv d l
 have hs:fldSt d (l ++ [e])=fldStep d (fldSt d l) e:=by unfold fldSt;rw [List.foldl_append];rfl
 unfold fieldOfP
 rw [hs]
 generalize fldSt d l=st at *
 obtain ⟨h1,h2,h3⟩:=hi
 unfold fldStep fldOne joinR
 cases q:(getA e.attrs d.name).2 with
 |false=>
  by_cases z:st.has=0
  ·obtain ⟨a,b,c⟩:=h3 z
   simp [z,a,b,c,sortS_nil]
  ·simp [z]
 |true=>
  by_cases z:st.has=0
  ·obtain ⟨a,b,c⟩:=h3 z
   by_cases k:d.kind=2<;>simp [z,c,k,addK,sortS_nil,sortS_one]
  ·by_cases k:d.kind=2
   ·simp [z,k,sortS_add h2,mnI_eq,mxI_eq]
   ·simp [z,k,mergeW_nil,mnI_eq,mxI_eq]
theorem fieldOfP_one (d:PDef) (e:PEntry):fieldOfP d [e]=fldOne d e:=by
 have:=fieldOfP_snoc d [] e
 rw [fieldOfP_nil] at this
 simpa [joinR] using this
theorem fieldOfP_ok (d:PDef) (l:List PEntry):FieldOK (fieldOfP d l):=by
 obtain ⟨h1,h2,h3⟩:=fldSt_inv d l
 refine ⟨h1,fun h=>?_,sortS_asc h2⟩
 obtain ⟨a,b,c⟩:=h3 h
 exact ⟨a,b,by simp [fieldOfP,c,sortS_nil]⟩
def singleP (s:PSchema) (pv:List (List Int)) (e:PEntry):PSum:=⟨1,⟨e.vec,e.vec⟩,pv.map fun p=>⟨keyV s.metric p e.vec,keyV s.metric p e.vec⟩,e.frm,e.frm,e.to,e.born,e.born,s.defs.map fun d=>fldOne d e⟩
def zeroZ:PSum:=⟨0,⟨[],[]⟩,[],0,0,0,0,0,[]⟩
def joinSum (jf:PField→PField→PField) (s:PSchema) (a b:PSum):PSum×Int:=
 if a.shells.length≠b.shells.length then (zeroZ,1)
 else if 4096 < a.count+b.count then (zeroZ,2)
 else (⟨a.count+b.count,(boxJoin a.box b.box).1,(shJoin a.shells b.shells).1,mnI a.fromLo b.fromLo,mxI a.fromHi b.fromHi,mxI a.toHi b.toHi,mnI a.bornLo b.bornLo,mxI a.bornHi b.bornHi,(List.range s.defs.length).map fun k=>jf (a.fields.getD k default) (b.fields.getD k default)⟩,0)
structure TSt where
 fromLo:Int
 fromHi:Int
 toHi:Int
 bornLo:Int
 bornHi:Int
def tStep (t:TSt) (e:PEntry):TSt:=⟨mnI t.fromLo e.frm,mxI t.fromHi e.frm,mxI t.toHi e.to,mnI t.bornLo e.born,mxI t.bornHi e.born⟩
def tOne (e:PEntry):TSt:=⟨e.frm,e.frm,e.to,e.born,e.born⟩
def tK (l:List PEntry) (k:Nat):TSt:=(l.take k).foldl tStep (tOne (l.getD 0 default))
def tSt (l:List PEntry):TSt:=l.foldl tStep (tOne (l.getD 0 default))
noncomputable def ofL (s:PSchema) (pv:List (List Int)) (l:List PEntry):PSum:=
 ⟨l.length,(boxOf (l.map (·.vec))).1,if 0 < pv.length then (shellP s.metric pv (l.map (·.vec))).1 else [],(tSt l).fromLo,(tSt l).fromHi,(tSt l).toHi,(tSt l).bornLo,(tSt l).bornHi,s.defs.map fun d=>fieldOfP d l⟩
def wrongV (s:PSchema) (v:List Int):Bool := !vecB v || decide ((v.length:Int)≠s.dims)
noncomputable def zOf (s:PSchema) (pv:List (List Int)) (l:List PEntry):PSum×Int:=
 if checkE s≠0∨8 < pv.length∨pv.any (wrongV s)=true then (zeroZ,1)
 else if l.length=0∨(l.any fun e=>decide (entryA s e≠0))=true then (zeroZ,3)
 else if 4096 < l.length then (zeroZ,2)
 else (ofL s pv l,0)
def refL (s:PSchema) (pv:List (List Int)) (l:List PEntry):PSum:=(l.drop 1).foldl (fun z e=>(joinSum joinR s z (singleP s pv e)).1) (singleP s pv (l.getD 0 default))
def refOf (s:PSchema) (pv:List (List Int)) (l:List PEntry):PSum×Int:=
 if checkE s≠0∨8 < pv.length∨pv.any (wrongV s)=true then (zeroZ,1)
 else if (l.any fun e=>decide (entryE s e≠0))=true∨l.length=0 then (zeroZ,3)
 else if 4096 < l.length then (zeroZ,2)
 else (refL s pv l,0)
theorem addM_step {m n d:Int} (hn:0≤n) (h1:0≤d) (h2:d≤2000):n≤addM m n d∧addM m n d≤n+4000000:=by
 have hd:0≤d * d∧d * d≤4000000:=⟨Int.mul_nonneg h1 h1,by
  have:=Int.mul_le_mul h2 h2 h1 (by omega:(0:Int)≤2000)
  omega⟩
 unfold addM
 split
 ·omega
 ·split<;>omega
theorem keyD_step (m:Int):∀(ds:List Int) (n:Int),0≤n→(∀d∈ds,0≤d∧d≤2000)→0≤ds.foldl (addM m) n∧ds.foldl (addM m) n≤n+4000000 * (ds.length:Int)
 | [],n,hn,_=>by simpa using hn
 |d :: r,n,hn,h=>by
  obtain ⟨a1,a2⟩:=h d (by simp)
  obtain ⟨b1,b2⟩:=addM_step (m:=m) hn a1 a2
  obtain ⟨c1,c2⟩:=keyD_step m r (addM m n d) (by omega) (fun x hx=>h x (by simp [hx]))
  rw [List.foldl_cons]
  simp only [List.length_cons]
  omega
theorem zipI_get {g:Int→Int→Int} {a b:List Int} {k:Nat} (h:k < a.length):(zipI g a b).getD k default=g (a.getD k default) (b.getD k default):=by
 simp [zipI,List.getD_eq_getElem?_getD,List.getElem?_map,List.getElem?_range h]
theorem keyV_bound {m:Int} {a b:List Int} (ha:vecB a=true) (hb:vecB b=true):0≤keyV m a b∧keyV m a b≤134217728:=by
 obtain ⟨⟨-,a2⟩,a3⟩:=vecB_get ha
 obtain ⟨-,b3⟩:=vecB_get hb
 have h:=keyD_step m ((zipI subI a b).map absI) 0 (by omega) (fun d hd=>by
  obtain ⟨x,hx,rfl⟩:=List.mem_map.1 hd
  obtain ⟨k,hk,rfl⟩:=List.getElem_of_mem hx
  have hk' : k < a.length:=by rwa [zipI_len] at hk
  have e:=zipI_get (g:=subI) (b:=b) hk'
  rw [List.getD_eq_getElem?_getD,List.getElem?_eq_getElem hk,Option.getD_some] at e
  rw [e]
  have h1:=a3 k
  have h2:=b3 k
  unfold absI subI
  omega)
 unfold keyV normI keyD
 rw [List.length_map,zipI_len] at h
 omega
theorem vecB_of {v:List Int} (h1:1≤v.length) (h2:v.length≤32) (h:∀k,k < v.length → -1000≤v.getD k default∧v.getD k default≤1000):vecB v=true:=by
 simp only [vecB,Bool.and_eq_true,decide_eq_true_eq,Bool.not_eq_true',List.any_eq_false]
 refine ⟨h1,h2,fun x hx=>?_⟩
 obtain ⟨k,hk,rfl⟩:=List.getElem_of_mem hx
 have:=h k hk
 rw [List.getD_eq_getElem?_getD,List.getElem?_eq_getElem hk,Option.getD_some] at this
 simp [farB];omega
structure BoxOK (n:Nat) (b:PBox):Prop where
 lo:b.lo.length=n
 hi:b.hi.length=n
 le:∀k,k < n → -1000≤b.lo.getD k default∧b.lo.getD k default≤b.hi.getD k default∧b.hi.getD k default≤1000
theorem BoxOK.valid {n:Nat} {b:PBox} (h:BoxOK n b) (h1:1≤n) (h2:n≤32):boxB b=true:=by
 have e1:vecB b.lo=true:=vecB_of (by rw [h.lo];exact h1) (by rw [h.lo];exact h2) fun k hk=>by
  have:=h.le k (by rw [←h.lo];exact hk)
  omega
 have e2:vecB b.hi=true:=vecB_of (by rw [h.hi];exact h1) (by rw [h.hi];exact h2) fun k hk=>by
  have:=h.le k (by rw [←h.hi];exact hk)
  omega
 simp only [boxB,e1,e2,Bool.true_and,Bool.and_eq_true,decide_eq_true_eq,List.all_eq_true,List.mem_range]
 exact ⟨by rw [h.lo,h.hi],fun k hk=>(h.le k (by rw [←h.lo];exact hk)).2.1⟩
theorem boxOK_vec {v:List Int} (h:vecB v=true):BoxOK v.length ⟨v,v⟩:=by
 obtain ⟨-,a⟩:=vecB_get h
 exact ⟨rfl,rfl,fun k _=>⟨(a k).1,Int.le_refl _,(a k).2⟩⟩
theorem BoxOK.grow {n:Nat} {b:PBox} {v:List Int} (h:BoxOK n b) (hv:vecB v=true):BoxOK n ⟨zipI min b.lo v,zipI max b.hi v⟩:=by
 obtain ⟨-,a⟩:=vecB_get hv
 refine ⟨by rw [zipI_len,h.lo],by rw [zipI_len,h.hi],fun k hk=>?_⟩
 have h1:=h.le k hk
 have h2:=a k
 have e1:(zipI min b.lo v).getD k default=min (b.lo.getD k default) (v.getD k default):=zipI_get (by rw [h.lo];exact hk)
 have e2:(zipI max b.hi v).getD k default=max (b.hi.getD k default) (v.getD k default):=zipI_get (by rw [h.hi];exact hk)
 simp only [e1,e2]
 omega
theorem getD_app {α:Type} [Inhabited α] {l:List α} {x:α} {k:Nat} (h:k < l.length):(l ++ [x]).getD k default=l.getD k default:=by
 rw [List.getD_eq_getElem?_getD,List.getD_eq_getElem?_getD,List.getElem?_append_left h]
theorem boxOfL_snoc {l:List (List Int)} {v:List Int} (h:0 < l.length):boxOfL (l ++ [v])=⟨zipI min (boxOfL l).lo v,zipI max (boxOfL l).hi v⟩:=by
 unfold boxOfL
 rw [List.drop_append_of_le_length (by omega),List.foldl_append,getD_app h]
 rfl
structure SumOK (s:PSchema) (pv:List (List Int)) (l:List PEntry):Prop where
 met:keyB s.metric=true
 len:pv.length≤8
 piv:∀p∈pv,vecB p=true∧(p.length:Int)=s.dims
 ent:∀e∈l,vecB e.vec=true∧(e.vec.length:Int)=s.dims
theorem SumOK.mono {s:PSchema} {pv:List (List Int)} {l:List PEntry} {e:PEntry} (h:SumOK s pv (l ++ [e])):SumOK s pv l:=⟨h.met,h.len,h.piv,fun x hx=>h.ent x (by simp [hx])⟩
theorem SumOK.last {s:PSchema} {pv:List (List Int)} {l:List PEntry} {e:PEntry} (h:SumOK s pv (l ++ [e])):vecB e.vec=true∧(e.vec.length:Int)=s.dims:=h.ent e (by simp)
theorem snoc_ind {α:Type} {P:List α→Prop} (one:∀a,P [a]) (step:∀l a,0 < l.length→P l→P (l ++ [a])) (l:List α) (h:0 < l.length):P l:=by
 have:∀n (l:List α),l.length=n+1→P l:=by
  intro n
  induction n with
  |zero=>
   intro l hl
   match l,hl with
   | [a],_=>exact one a
  |succ n ih=>
   intro l hl
   have hne:l ≠ []:=fun e=>by rw [e] at hl;simp at hl
   rw [←List.dropLast_concat_getLast hne]
   have hd:l.dropLast.length=n+1:=by rw [List.length_dropLast,hl];omega
   exact step _ _ (by omega) (ih _ hd)
 exact this (l.length - 1) l (by omega)
theorem sum_box {s:PSchema} {pv:List (List Int)} {n:Nat} (hn:(n:Int)=s.dims) (l:List PEntry) (h0:0 < l.length) (h:SumOK s pv l):BoxOK n (boxOfL (l.map (·.vec))):=by
 revert h
 refine snoc_ind (P:=fun l=>SumOK s pv l→BoxOK n (boxOfL (l.map (·.vec)))) (fun a h=>?_) (fun l a hl ih h=>?_) l h0
 ·have he:=h.ent a (by simp)
  have:=boxOK_vec he.1
  rw [show a.vec.length=n by omega] at this
  simpa [boxOfL] using this
 ·rw [List.map_append,List.map_cons,List.map_nil,boxOfL_snoc (by simpa using hl)]
  exact (ih h.mono).grow h.last.1
def shK (s:PSchema) (p:List Int) (l:List PEntry):PShell:=l.foldl (fun sh e=>withP sh (keyV s.metric p e.vec)) ⟨keyV s.metric p (l.getD 0 default).vec,keyV s.metric p (l.getD 0 default).vec⟩
theorem shK_one (s:PSchema) (p:List Int) (e:PEntry):shK s p [e]=⟨keyV s.metric p e.vec,keyV s.metric p e.vec⟩:=by simp [shK,withP]
theorem shK_snoc {s:PSchema} {p:List Int} {l:List PEntry} {e:PEntry} (h:0 < l.length):shK s p (l ++ [e])=withP (shK s p l) (keyV s.metric p e.vec):=by
 unfold shK
 rw [List.foldl_append,getD_app h]
 rfl
theorem shK_ok {s:PSchema} {pv:List (List Int)} {p:List Int} (hp:p∈pv) (l:List PEntry) (h0:0 < l.length) (h:SumOK s pv l):shellB (shK s p l)=true:=by
 revert h
 refine snoc_ind (P:=fun l=>SumOK s pv l→shellB (shK s p l)=true) (fun a h=>?_) (fun l a hl ih h=>?_) l h0
 ·have:=keyV_bound (m:=s.metric) (h.piv p hp).1 (h.ent a (by simp)).1
  rw [shK_one,shellB_iff]
  simp only;omega
 ·have h1:=keyV_bound (m:=s.metric) (h.piv p hp).1 h.last.1
  have h2:=shellB_iff.1 (ih h.mono)
  rw [shK_snoc hl,shellB_iff]
  simp only [withP];omega
theorem keysP_get {m:Int} {pv:List (List Int)} {v:List Int} {k:Nat} (h:k < pv.length):(keysP m pv v).getD k default=keyV m (pv.getD k default) v:=by
 simp [keysP,List.getD_eq_getElem?_getD,h]
theorem range_getD {α β:Type} [Inhabited α] (l:List α) (f:α→β):(List.range l.length).map (fun k=>f (l.getD k default))=l.map f:=by
 apply List.ext_getElem?
 intro k
 simp only [List.getElem?_map]
 by_cases h:k < l.length
 ·simp [List.getElem?_range h,h]
 ·rw [List.getElem?_eq_none (by simpa using h),List.getElem?_eq_none (by omega)];rfl
theorem colI_sh {s:PSchema} {pv:List (List Int)} {l:List PEntry} {k:Nat} (hk:k < pv.length) (h0:0 < l.length):colI (tabL s.metric pv (l.map (·.vec))) k (tabL s.metric pv (l.map (·.vec))).length=shK s (pv.getD k default) l:=by
 unfold colI shK tabL
 rw [List.take_length,List.map_map,List.foldl_map]
 cases l with
 |nil=>simp at h0
 |cons e r=>
  simp only [List.map_cons,List.getD_cons_zero,Function.comp,keysP_get hk]
theorem fitB_of {l:List (List Int)} {n:Int} (h1:1≤l.length) (h2:l.length≤4096) (h:∀v∈l,vecB v=true∧(v.length:Int)=n):fitB l=true:=by
 have h0:=h _ (getD_mem (k:=0) (by omega:0 < l.length))
 simp only [fitB,Bool.and_eq_true,decide_eq_true_eq,Bool.not_eq_true',List.any_eq_false]
 refine ⟨h1,h2,fun v hv=>?_⟩
 obtain ⟨a,b⟩:=h v hv
 have:alikeB (l.getD 0 default) v=true:=by
  simp only [alikeB,h0.1,a,Bool.and_self,Bool.and_true,decide_eq_true_eq];omega
 rw [this];decide
theorem sum_tab {s:PSchema} {pv:List (List Int)} {l:List PEntry} (h:SumOK s pv l) (h0:0 < l.length) (h1:l.length≤4096) (hp:0 < pv.length):tabB s.metric pv (l.map (·.vec))=true:=by
 have f1:=fitB_of (by omega) (by have:=h.len;omega) h.piv
 have f2:fitB (l.map (·.vec))=true:=fitB_of (n:=s.dims) (by rw [List.length_map];omega) (by rw [List.length_map];omega) fun v hv=>by
  obtain ⟨e,he,rfl⟩:=List.mem_map.1 hv
  exact h.ent e he
 have p0:=h.piv _ (getD_mem hp)
 have e0:vecB ((l.map fun x:PEntry=>x.vec).getD 0 default)=true∧(((l.map fun x:PEntry=>x.vec).getD 0 default).length:Int)=s.dims:=by
  have hm:=getD_mem (l:=l.map fun x:PEntry=>x.vec) (k:=0) (by simpa using h0)
  obtain ⟨e,he,hq⟩:=List.mem_map.1 hm
  rw [←hq]
  exact h.ent e he
 simp only [tabB,pivotsB,h.met,f1,f2,Bool.true_and,alikeB,p0.1,e0.1,Bool.and_self,Bool.and_true,Bool.and_eq_true,decide_eq_true_eq]
 exact ⟨h.len,by omega⟩
theorem ofL_shells {s:PSchema} {pv:List (List Int)} {l:List PEntry} (h:SumOK s pv l) (h0:0 < l.length) (h1:l.length≤4096):(if 0 < pv.length then (shellP s.metric pv (l.map (·.vec))).1 else [])=pv.map fun p=>shK s p l:=by
 by_cases hp:0 < pv.length
 ·rw [if_pos hp,shellP,if_pos (sum_tab h h0 h1 hp)]
  simp only [shellL]
  rw [←range_getD pv fun p=>shK s p l]
  exact List.map_congr_left fun k hk=>colI_sh (by simpa using hk) h0
 ·rw [if_neg hp]
  cases pv with
  |nil=>rfl
  |cons a b=>simp at hp
theorem map_getD {α β:Type} [Inhabited α] [Inhabited β] {l:List α} (f:α→β) {k:Nat} (h:k < l.length):(l.map f).getD k default=f (l.getD k default):=by
 simp [List.getD_eq_getElem?_getD,h]
theorem joinS_map (pv:List (List Int)) (f g:List Int→PShell):joinS (pv.map f) (pv.map g)=pv.map fun p=>⟨min (min (f p).lo (g p).lo) (g p).hi,max (max (f p).hi (g p).lo) (g p).hi⟩:=by
 refine Eq.trans ?_ (range_getD pv fun p=>(⟨min (min (f p).lo (g p).lo) (g p).hi,max (max (f p).hi (g p).lo) (g p).hi⟩:PShell))
 rw [joinS,List.length_map]
 refine List.map_congr_left fun k hk=>?_
 have hk' : k < pv.length:=by simpa using hk
 rw [map_getD f hk',map_getD g hk']
theorem shellsB_map {pv:List (List Int)} {f:List Int→PShell} (h:pv.length≤8) (hf:∀p∈pv,shellB (f p)=true):shellsB (pv.map f)=true:=by
 simp only [shellsB,List.length_map,Bool.and_eq_true,decide_eq_true_eq,List.all_eq_true]
 refine ⟨fun x hx=>?_,h⟩
 obtain ⟨p,hp,rfl⟩:=List.mem_map.1 hx
 exact hf p hp
theorem tSt_snoc {l:List PEntry} {e:PEntry} (h:0 < l.length):tSt (l ++ [e])=tStep (tSt l) e:=by
 unfold tSt
 rw [List.foldl_append,getD_app h];rfl
theorem tSt_one (e:PEntry):tSt [e]=tOne e:=by simp [tSt,tStep,tOne,mnI_eq,mxI_eq]
theorem ofL_eq {s:PSchema} {pv:List (List Int)} {m:List PEntry} (h:SumOK s pv m) (hm:0 < m.length) (hl:m.length≤4096):ofL s pv m=⟨m.length,boxOfL (m.map (·.vec)),pv.map fun p=>shK s p m,(tSt m).fromLo,(tSt m).fromHi,(tSt m).toHi,(tSt m).bornLo,(tSt m).bornHi,s.defs.map fun d=>fieldOfP d m⟩:=by
 have hw:(boxOf (m.map (·.vec))).1=boxOfL (m.map (·.vec)):=by
  unfold boxOf
  rw [if_neg]
  rintro (h1|h1)
  ·simp only [List.length_map] at h1;omega
  ·rw [List.any_eq_true] at h1
   obtain ⟨v,hv,hq⟩:=h1
   obtain ⟨x,hx,rfl⟩:=List.mem_map.1 hv
   obtain ⟨a1,a2⟩:=h.ent x hx
   have hm0:=getD_mem (l:=m.map fun x:PEntry=>x.vec) (k:=0) (by simpa using hm)
   obtain ⟨y,hy,hz⟩:=List.mem_map.1 hm0
   obtain ⟨b1,b2⟩:=h.ent y hy
   unfold wrongB at hq
   rw [←hz,a1] at hq
   simp only [Bool.not_true,Bool.false_or,decide_eq_true_eq] at hq
   omega
 unfold ofL
 rw [ofL_shells h hm hl,hw]
theorem join_of {s:PSchema} {pv:List (List Int)} {l:List PEntry} {e:PEntry} (h:SumOK s pv (l ++ [e])) (h0:0 < l.length) (hl:l.length+1≤4096):joinSum joinR s (ofL s pv l) (singleP s pv e)=(ofL s pv (l ++ [e]),0):=by
 obtain ⟨e1,e2⟩:=h.last
 obtain ⟨⟨v1,v2⟩,-⟩:=vecB_get e1
 have hb:=sum_box e2 l h0 h.mono
 have hb2:boxB (boxOfL (l.map (·.vec)))=true:=hb.valid v1 v2
 have hb3:boxB ⟨e.vec,e.vec⟩=true:=(boxOK_vec e1).valid v1 v2
 rw [ofL_eq h.mono h0 (by omega),ofL_eq h (by simp) (by simpa using hl)]
 unfold joinSum singleP
 simp only
 rw [if_neg (by simp),if_neg (by omega)]
 congr 1
 congr 1
 ·simp
 ·simp only [boxJoin,hb2,hb3,Bool.true_and,hb.lo,decide_eq_true_eq]
  rw [if_pos trivial,List.map_append,List.map_cons,List.map_nil,boxOfL_snoc (by simpa using h0)]
 ·have s1:shellsB (pv.map fun p=>shK s p l)=true:=shellsB_map h.len fun p hp=>shK_ok hp l h0 h.mono
  have s2:shellsB (pv.map fun p=>(⟨keyV s.metric p e.vec,keyV s.metric p e.vec⟩:PShell))=true:=shellsB_map h.len fun p hp=>by
   have:=keyV_bound (m:=s.metric) (h.piv p hp).1 e1
   rw [shellB_iff];simp only;omega
  simp only [shJoin,s1,s2,Bool.true_and,List.length_map,decide_true,if_true]
  rw [joinS_map]
  refine List.map_congr_left fun p hp=>?_
  rw [shK_snoc h0]
  simp only [withP,PShell.mk.injEq]
  omega
 ·rw [tSt_snoc h0];rfl
 ·rw [tSt_snoc h0];rfl
 ·rw [tSt_snoc h0];rfl
 ·rw [tSt_snoc h0];rfl
 ·rw [tSt_snoc h0];rfl
 ·refine Eq.trans ?_ (range_getD s.defs fun d=>fieldOfP d (l ++ [e]))
  refine List.map_congr_left fun k hk=>?_
  have hk' : k < s.defs.length:=by simpa using hk
  rw [map_getD _ hk',map_getD _ hk',fieldOfP_snoc]
theorem ofL_one {s:PSchema} {pv:List (List Int)} {e:PEntry} (h:SumOK s pv [e]):ofL s pv [e]=singleP s pv e:=by
 obtain ⟨e1,e2⟩:=h.ent e (by simp)
 unfold ofL singleP
 rw [ofL_shells h (by simp) (by simp),tSt_one]
 congr 1
 ·simp only [List.map_cons,List.map_nil,boxOf,List.length_singleton,List.any_cons,List.any_nil,wrongB,List.getD_cons_zero,e1]
  simp [boxOfL]
 ·exact List.map_congr_left fun p _=>shK_one s p e
 ·exact List.map_congr_left fun d _=>fieldOfP_one d e
theorem refL_of {s:PSchema} {pv:List (List Int)} (l:List PEntry) (h0:0 < l.length) (h:SumOK s pv l) (hl:l.length≤4096):refL s pv l=ofL s pv l:=by
 revert h hl
 refine snoc_ind (P:=fun l=>SumOK s pv l→l.length≤4096→refL s pv l=ofL s pv l) (fun a h _=>?_) (fun l a h0 ih h hl=>?_) l h0
 ·rw [ofL_one h];rfl
 ·have hl' : l.length+1≤4096:=by simpa using hl
  have h1:=ih h.mono (by omega)
  have h2:refL s pv (l ++ [a])=(joinSum joinR s (refL s pv l) (singleP s pv a)).1:=by
   unfold refL
   rw [List.drop_append_of_le_length (by omega),List.foldl_append,getD_app h0];rfl
  rw [h2,h1,join_of h h0 hl']
theorem validV_B (v:List Int):validV v=vecB v:=by
 unfold validV vecB
 have:v.all (fun x=>decide (-1000≤x) && decide (x≤1000)) = !v.any farB:=by
  rw [Bool.eq_iff_iff]
  simp only [List.all_eq_true,Bool.and_eq_true,decide_eq_true_eq,Bool.not_eq_true',List.any_eq_false,farB,Bool.or_eq_true,not_or]
  constructor
  ·intro h x hx;have:=h x hx;omega
  ·intro h x hx;have:=h x hx;omega
 rw [this]
 cases (!v.any farB)<;>simp
theorem checkE_met {s:PSchema} (h:checkE s=0):keyB s.metric=true∧(1≤s.dims∧s.dims≤32)∧s.defs.length≤16:=by
 unfold checkE at h
 split at h
 ·simp at h
 ·rename_i h1
  split at h
  ·simp at h
  ·rename_i h2
   refine ⟨?_,by omega,by omega⟩
   simp only [keyB,Bool.and_eq_true,decide_eq_true_eq];omega
theorem entryE_vec {s:PSchema} {e:PEntry} (h:entryE s e=0):vecB e.vec=true∧(e.vec.length:Int)=s.dims:=by
 unfold entryE at h
 split at h
 ·simp at h
 ·split at h
  ·simp at h
  ·split at h
   ·simp at h
   ·rename_i h3
    simp only [not_or,validV_B,Bool.not_eq_false] at h3
    exact ⟨h3.1,by simpa using h3.2⟩
theorem wrongV_ok {s:PSchema} {pv:List (List Int)} (h:¬pv.any (wrongV s)=true):∀p∈pv,vecB p=true∧(p.length:Int)=s.dims:=by
 intro p hp
 rw [List.any_eq_true] at h
 have h1:¬wrongV s p=true:=fun e=>h ⟨p,hp,e⟩
 unfold wrongV at h1
 cases e:vecB p with
 |false=>rw [e] at h1;simp at h1
 |true=>rw [e] at h1;simpa using h1
theorem sumOK_of {s:PSchema} {pv:List (List Int)} {l:List PEntry} (hc:checkE s=0) (h8:¬8 < pv.length) (hw:¬pv.any (wrongV s)=true) (he:∀e∈l,entryE s e=0):SumOK s pv l:=
 ⟨(checkE_met hc).1,by omega,wrongV_ok hw,fun e h=>entryE_vec (he e h)⟩
theorem zOf_ref (s:PSchema) (pv:List (List Int)) (l:List PEntry):zOf s pv l=refOf s pv l:=by
 unfold zOf refOf
 by_cases h1:checkE s≠0∨8 < pv.length∨pv.any (wrongV s)=true
 ·rw [if_pos h1,if_pos h1]
 ·rw [if_neg h1,if_neg h1]
  simp only [not_or,Classical.not_not] at h1
  obtain ⟨hc,h8,hw⟩:=h1
  have e:(l.any fun e=>decide (entryA s e≠0))=(l.any fun e=>decide (entryE s e≠0)):=by
   congr 1;funext e;rw [entryA_E hc]
  rw [e]
  by_cases h2:(l.any fun e=>decide (entryE s e≠0))=true∨l.length=0
  ·rw [if_pos h2,if_pos h2.symm]
  ·rw [if_neg h2,if_neg fun h=>h2 h.symm]
   by_cases h3:4096 < l.length
   ·rw [if_pos h3,if_pos h3]
   ·rw [if_neg h3,if_neg h3]
    simp only [not_or] at h2
    have he:∀e∈l,entryE s e=0:=fun e h=>by
     by_cases q:entryE s e=0
     ·exact q
     ·exact absurd (List.any_eq_true.2 ⟨e,h,by simpa using q⟩) h2.1
    rw [refL_of l (by omega) (sumOK_of hc h8 hw he) (by omega)]
theorem asc_adj:∀{l:List ByteArray},(∀i,i+1 < l.length→ltB (l.getD i default) (l.getD (i+1) default))→Asc l
 | [],_=>.nil
 | [a],_=>asc_one a
 |a :: b :: r,h=>by
  have h2:Asc (b :: r):=asc_adj fun i hi=>by
   have:=h (i+1) (by simpa using hi)
   simpa using this
  have h0:ltB a b:=by simpa using h 0 (by simp)
  refine List.pairwise_cons.2 ⟨fun z hz=>?_,h2⟩
  rcases List.mem_cons.1 hz with rfl|hz
  ·exact h0
  ·exact ltB_trans h0 ((List.pairwise_cons.1 h2).1 z hz)
theorem fieldB_ok {d:PDef} {f:PField} {count:Int} (h:fieldB d f count=true):FieldOK f∧f.has≤count∧(0 < f.has→d.kind≠1→f.lo=0∧f.hi=0):=by
 unfold fieldB at h
 split at h
 ·cases h
 ·rename_i hw
  have hw2:0≤f.has∧f.has≤count:=by simpa [withinB] using hw
  split at h
  ·rename_i hk
   simp only [Bool.and_eq_true,decide_eq_true_eq] at h
   have hnil:f.words = []:=List.eq_nil_of_length_eq_zero h.2.2
   exact ⟨⟨hw2.1,fun h0=>by omega,by rw [hnil];exact asc_nil⟩,hw2.2,fun _ hk2=>absurd hk.2 hk2⟩
  ·rename_i hk
   split at h
   ·cases h
   ·rename_i h3
    simp only [not_or,Classical.not_not] at h3
    obtain ⟨l1,l2,l3⟩:=h3
    refine ⟨⟨hw2.1,fun h0=>⟨l1,l2,?_⟩,?_⟩,hw2.2,fun _ _=>⟨l1,l2⟩⟩
    ·rw [decide_eq_false (show ¬0 < f.has by omega)] at l3
     have:¬0 < f.words.length:=by simpa using l3.symm
     exact List.eq_nil_of_length_eq_zero (by omega)
    ·refine asc_adj fun i hi=>?_
     rw [List.all_eq_true] at h
     have h4:=h (i+1) (by simpa using hi)
     simp only [wordOK,Bool.and_eq_true,Bool.or_eq_true,decide_eq_true_eq,Nat.add_sub_cancel] at h4
     rcases h4.2 with h5|h5
     ·omega
     ·exact leqB_false.1 (by simpa using h5)
structure SumV (s:PSchema) (n:Int) (z:PSum):Prop where
 count:1≤z.count∧z.count≤4096
 box:boxB z.box=true
 dims:(z.box.lo.length:Int)=s.dims
 num:(z.shells.length:Int)=n
 shells:shellsB z.shells=true
 len:z.fields.length=s.defs.length
 frm:0≤z.fromLo∧z.fromLo≤z.fromHi∧z.fromHi≤1048576
 to:z.fromLo+1≤z.toHi∧z.toHi≤1048577
 born:1≤z.bornLo∧z.bornLo≤z.bornHi∧z.bornHi≤1073741824
 field:∀k,k < s.defs.length→fieldB (s.defs.getD k default) (z.fields.getD k default) z.count=true
theorem SumV.ok {s:PSchema} {n:Int} {z:PSum} (h:SumV s n z) {k:Nat} (hk:k < s.defs.length):FieldOK (z.fields.getD k default):=(fieldB_ok (h.field k hk)).1
structure NumZ (z:PSum):Prop where
 head:Fit (headZ z)
 lo:Fit z.box.lo
 hi:Fit z.box.hi
 shells:∀s∈z.shells,Fit64 s.lo∧Fit64 s.hi
 fields:∀f∈z.fields,(Fit64 f.has∧Fit64 f.lo∧Fit64 f.hi)∧f.words.length≤1000∧∀w∈f.words,w.size≤1000
 n1:z.box.lo.length≤1000
 n2:z.box.hi.length≤1000
 n3:z.shells.length≤1000
 n4:z.fields.length≤100
theorem flW_bound:∀{l:List PField},(∀f∈l,f.words.length≤1000)→(flW l).length≤1000 * l.length
 | [],_=>by simp [flW]
 |a :: r,h=>by
  have h1:=h a (by simp)
  have h2:=flW_bound (l:=r) fun f hf=>h f (by simp [hf])
  simp only [flW,List.flatMap_cons,List.length_append,List.length_cons] at *
  omega
theorem NumZ.enc {z:PSum} (h:NumZ z):EncOK z:=by
 obtain ⟨h1,h2,h3,h4,h5,n1,n2,n3,n4⟩:=h
 refine ⟨h1,h2,h3,h4,fun f hf=>(h5 f hf).1,by omega,by omega,by omega,by omega,?_,fun w hw=>?_⟩
 ·have:=flW_bound fun f hf=>(h5 f hf).2.1
  omega
 ·obtain ⟨f,hf,hw2⟩:=List.mem_flatMap.1 hw
  have:=(h5 f hf).2.2 w hw2
  omega
theorem fit_min {a b:Int} (ha:Fit64 a) (hb:Fit64 b):Fit64 (mnI a b)∧Fit64 (mxI a b):=by
 unfold Fit64 at *
 rw [mnI_eq,mxI_eq]
 omega
end
section
open Go.ChangeShapes Go.WideShapes Go.ChangeAt Go.RowKit
inductive GoodP:PPred→Prop where
 |mk {op n m:Int} {nm w:ByteArray} {subs:List PPred} (h1:Fit64 op) (h2:Fit64 n) (h3:Fit64 m) (h4:subs.length * 80≤reachBytes) (h5:∀p∈subs,GoodP p):GoodP (.mk op nm n m w subs)
set_option maxRecDepth 100000 in
set_option maxHeartbeats 1000000 in
theorem open_pred:∀(N:Nat) (H:Type) (enc:TypeId×Value→H) (W:World) (fuel:Nat) (cs:List Value) (d:DataW H) (pl:List MemPlace),SizeOf.sizeOf d < N→DataW.trod enc Tryz.prog W 0 (fun _=>true) true fuel 54 cs=some (d,pl)→(∀n∈d.weights Tryz.prog 54,n≤reachBytes)→∃p:PPred,GoodP p∧RepL (immW W) mu0 (prL p) cs:=by
 intro N
 induction N with
 |zero=>intro H enc W fuel cs d pl h;omega
 |succ N ih=>
  intro H enc W fuel cs d pl hN h hw
  obtain ⟨xs,n,rfl,hx,h3,h4,h5⟩:=DataW.trod_struct Tryz.underlying54 h
  cases hx
  have hc6:Tryz.prog.cellsOf 54=6:=by kernel_rfl
  rw [hc6] at h3
  match xs,h4,h5,hN,hw with
  | [x0,x1,x2,x3,x4,x5],_,h5,hN,hw=>
   have ci:Tryz.prog.cellsOf 3=1:=by kernel_rfl
   have ck:Tryz.prog.cellsOf 9=1:=by kernel_rfl
   have cl:Tryz.prog.cellsOf 52=1:=by kernel_rfl
   have f0:DataW.trod enc Tryz.prog W 0 (fun _=>true) true n 3 ((cs.drop 0).take (Tryz.prog.cellsOf 3))=some x0:=h5 0 _ rfl
   have f1:DataW.trod enc Tryz.prog W 0 (fun _=>true) true n 9 ((cs.drop 1).take (Tryz.prog.cellsOf 9))=some x1:=h5 1 _ rfl
   have f2:DataW.trod enc Tryz.prog W 0 (fun _=>true) true n 3 ((cs.drop 2).take (Tryz.prog.cellsOf 3))=some x2:=h5 2 _ rfl
   have f3:DataW.trod enc Tryz.prog W 0 (fun _=>true) true n 3 ((cs.drop 3).take (Tryz.prog.cellsOf 3))=some x3:=h5 3 _ rfl
   have f4:DataW.trod enc Tryz.prog W 0 (fun _=>true) true n 9 ((cs.drop 4).take (Tryz.prog.cellsOf 9))=some x4:=h5 4 _ rfl
   have f5:DataW.trod enc Tryz.prog W 0 (fun _=>true) true n 52 ((cs.drop 5).take (Tryz.prog.cellsOf 52))=some x5:=h5 5 _ rfl
   rw [ci] at f0 f2 f3
   rw [ck] at f1 f4
   rw [cl] at f5
   have hW:∀z∈DataW.weightsEach Tryz.prog [3,9,3,3,9,52] [x0.1,x1.1,x2.1,x3.1,x4.1,x5.1],z≤reachBytes:=fun z hz=>hw z (by simp only [DataW.weights,Tryz.underlying54];exact hz)
   simp only [DataW.weightsEach,List.mem_append] at hW
   obtain ⟨op,g0,r0⟩:=opensInt H enc W n _ x0.1 x0.2 f0 fun z hz=>hW z (.inl hz)
   obtain ⟨nm,-,r1⟩:=opensStr H enc W n _ x1.1 x1.2 f1 fun z hz=>hW z (.inr (.inl hz))
   obtain ⟨a,g2,r2⟩:=opensInt H enc W n _ x2.1 x2.2 f2 fun z hz=>hW z (.inr (.inr (.inl hz)))
   obtain ⟨b,g3,r3⟩:=opensInt H enc W n _ x3.1 x3.2 f3 fun z hz=>hW z (.inr (.inr (.inr (.inl hz))))
   obtain ⟨w,-,r4⟩:=opensStr H enc W n _ x4.1 x4.2 f4 fun z hz=>hW z (.inr (.inr (.inr (.inr (.inl hz)))))
   have hsz:SizeOf.sizeOf x5.1 < N:=by
    simp only [List.map_cons,List.map_nil,DataW.agg.sizeOf_spec,List.cons.sizeOf_spec,List.nil.sizeOf_spec] at hN
    omega
   obtain ⟨subs,⟨g5,g6⟩,r5⟩:=open_elems (en:=prL) (ok:=GoodP) (k:=6) (b:=80) Tryz.underlying52 (by kernel_rfl) (by decide) (by kernel_rfl) (fun _ _=>rfl) (fun n us D Pl hD h1 h2=>ih H enc W n us D Pl (by
    obtain ⟨l,r,e,hm⟩:=hD
    rw [e] at hsz
    have:=List.sizeOf_lt_of_mem hm
    simp only [DataW.slice.sizeOf_spec] at hsz
    omega) h1 h2) f5 fun z hz=>hW z (.inr (.inr (.inr (.inr (.inr (.inl hz))))))
   refine ⟨.mk op nm a b w subs, .mk g0 g2 g3 g6 g5,?_⟩
   have hcs:cs=(cs.drop 0).take 1 ++ ((cs.drop 1).take 1 ++ ((cs.drop 2).take 1 ++ ((cs.drop 3).take 1 ++ ((cs.drop 4).take 1 ++ (cs.drop 5).take 1)))):=by
    match cs,h3 with
    | [_,_,_,_,_,_],_=>rfl
   rw [hcs,prL_eq]
   exact r0.append (r1.append (r2.append (r3.append (r4.append r5))))
theorem argPred:ArgOpens Tryz.prog 54 ppred GoodP:=
 arg_struct Tryz.underlying54 fun H enc W fuel cs d pl h hw=>open_pred (SizeOf.sizeOf d+1) H enc W fuel cs d pl (by omega) h hw
end
section
open Go.RowKit
structure FP (B n:Nat) (f:PField):Prop where
 has:0≤f.has∧f.has≤n
 lo:Fit64 f.lo
 hi:Fit64 f.hi
 len:f.words.length≤n
 sz:∀w∈f.words,w.size≤B
theorem fit0:Fit64 0:=⟨by decide,by decide⟩
theorem getA_all {p:PAttr→Prop} (h0:p zeroA) {l:List PAttr} {nm:ByteArray} (h:∀a∈l,p a):p (getA l nm).1:=by
 induction l with
 |nil=>simpa [getA] using h0
 |cons a r ih=>
  unfold getA
  split
  ·exact h a (by simp)
  ·exact ih fun x hx=>h x (by simp [hx])
theorem fldOne_fp {B:Nat} (d:PDef) {e:PEntry} (h:∀a∈e.attrs,Fit64 a.n∧a.s.size≤B):FP B 1 (fldOne d e):=by
 have hg:=getA_all (p:=fun a=>Fit64 a.n∧a.s.size≤B) (nm:=d.name) ⟨fit0,by simp [zeroA]⟩ h
 unfold fldOne
 split
 ·refine ⟨by simp,hg.1,hg.1,?_,?_⟩
  ·simp only;split<;>simp
  ·simp only
   intro w hw
   split at hw
   ·simp only [List.mem_cons,List.not_mem_nil,or_false] at hw;subst hw;exact hg.2
   ·cases hw
 ·exact ⟨by simp,fit0,fit0,by simp,by simp⟩
theorem FP.join {B n m:Nat} {a b:PField} (ha:FP B n a) (hb:FP B m b) (oa:Asc a.words) (ob:Asc b.words):FP B (n+m) (joinR a b):=by
 obtain ⟨a1,a2,a3,a4,a5⟩:=ha
 obtain ⟨b1,b2,b3,b4,b5⟩:=hb
 unfold joinR
 split
 ·exact ⟨by omega,b2,b3,by omega,b5⟩
 ·split
  ·exact ⟨by omega,a2,a3,by omega,a5⟩
  ·refine ⟨by simp only;omega,(fit_min a2 b2).1,(fit_min a3 b3).2,?_,fun w hw=>?_⟩
   ·have:=mergeW_len a.words b.words
    simp only;omega
   ·rcases ((mergeW_spec _ _ oa ob).2 w).1 hw with h|h
    ·exact a5 w h
    ·exact b5 w h
theorem fieldOfP_fp {B:Nat} (d:PDef) (l:List PEntry) (h0:0 < l.length) (h:∀e∈l,∀a∈e.attrs,Fit64 a.n∧a.s.size≤B):FP B l.length (fieldOfP d l):=by
 revert h
 refine snoc_ind (P:=fun l=>(∀e∈l,∀a∈e.attrs,Fit64 a.n∧a.s.size≤B)→FP B l.length (fieldOfP d l)) (fun a h=>?_) (fun l a h0 ih h=>?_) l h0
 ·rw [fieldOfP_one];exact fldOne_fp d (h a (by simp))
 ·rw [fieldOfP_snoc,List.length_append]
  exact (ih fun e he=>h e (by simp [he])).join (fldOne_fp d (h a (by simp))) (fieldOfP_ok d l).asc (fldOne_ok d a).asc
def FitL (l:List PEntry):Prop:=∀e∈l,∀a∈e.attrs,Fit64 a.n∧a.s.size≤1000
theorem of_fields {s:PSchema} {pv:List (List Int)} {m:List PEntry} (k:Nat) (hS:SumOK s pv m) (h0:0 < m.length) (hl:m.length≤1000) (hA:FitL m):FP 1000 m.length ((ofL s pv m).fields.getD k default):=by
 rw [ofL_eq hS h0 (by omega)]
 simp only
 rcases Nat.lt_or_ge k s.defs.length with hk|hk
 ·rw [map_getD _ hk];exact fieldOfP_fp _ m h0 hA
 ·rw [List.getD_eq_getElem?_getD,List.getElem?_eq_none (by simpa using hk)]
  exact ⟨⟨by decide,by simp [default,instInhabitedPField.default]⟩,fit0,fit0,by simp [default,instInhabitedPField.default],by intro w hw;simp [default,instInhabitedPField.default] at hw⟩
theorem of_len {s:PSchema} {pv:List (List Int)} {m:List PEntry} (hS:SumOK s pv m) (h0:0 < m.length) (hl:m.length≤1000):(ofL s pv m).fields.length=s.defs.length∧(ofL s pv m).shells.length=pv.length∧(ofL s pv m).count=m.length∧boxB (ofL s pv m).box=true:=by
 have he:=hS.ent _ (getD_mem h0)
 obtain ⟨⟨v1,v2⟩,-⟩:=vecB_get he.1
 have hb:=(sum_box he.2 m h0 hS).valid v1 v2
 rw [ofL_eq hS h0 (by omega)]
 exact ⟨by simp,by simp,rfl,hb⟩
theorem of_small {s:PSchema} {pv:List (List Int)} {m:List PEntry} (hS:SumOK s pv m) (h0:0 < m.length) (hl:m.length≤1000) (hs:SmallS s) (hA:FitL m):SmallZ (ofL s pv m)∧CountZ (ofL s pv m)∧∀k,WordsZ ((ofL s pv m).fields.getD k default):=by
 obtain ⟨q1,q2,q3,q4⟩:=of_len hS h0 hl
 obtain ⟨b1,b2,b3⟩:=boxB_len q4
 have hp:=hS.len
 have hd:=hs.1
 refine ⟨⟨by omega,by omega,by omega,by omega,fun k=>?_⟩,⟨by omega,fun k=>?_⟩,fun k=>⟨?_,fun w hw=>?_⟩⟩<;>have hf:=of_fields k hS h0 hl hA
 ·have:=hf.len;omega
 ·have:=hf.has;omega
 ·have:=hf.len;omega
 ·have:=hf.sz w hw;omega
theorem SumOK.take {s:PSchema} {pv:List (List Int)} {l:List PEntry} (h:SumOK s pv l) (k:Nat):SumOK s pv (l.take k):=⟨h.met,h.len,h.piv,fun e he=>h.ent e (List.mem_of_mem_take he)⟩
structure ObeyZ (s:PSchema) (pv:List (List Int)) (z:PSum) (e:PEntry):Prop where
 ent:entryA s e=0
 box:boxHas z.box e.vec=true
 num:z.shells.length=pv.length
 keys:∀k,k < pv.length→obeyK s pv z e k=true
 fld:∀k,k < s.defs.length→obeyF (s.defs.getD k default) (z.fields.getD k default) z.count e=true
theorem obeyZ_of {s:PSchema} {pv:List (List Int)} {z:PSum} {e:PEntry} (h:obeysZ s pv z e=true):ObeyZ s pv z e:=by
 simp only [obeysZ,Bool.and_eq_true,decide_eq_true_eq,List.all_eq_true,List.mem_range] at h
 obtain ⟨h1,h2,h3,h4,h5,h6,h7,h8⟩:=h
 exact ⟨h1,h2,h3,h4,h8⟩
theorem keysP_len (m:Int) (pv:List (List Int)) (v:List Int):(keysP m pv v).length=pv.length:=by simp [keysP]
end
end Go.Proofs.YtoamkpgaaanafaaGreat
