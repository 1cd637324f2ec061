/- Out of: PwI, PwI2, PwI3. -/
import Derived.Laws.IdiomStrings
import Derived.Test.YtmeekbjhpidcgaaDoorG9
import Derived.Test.YtmeekbjhpidcgaaDoorG10
namespace Go.Proofs.YtmeekbjhpidcgaaDoor
set_option linter.unusedSimpArgs false
set_option linter.unusedVariables false
set_option linter.unnecessarySimpa false
section
open Go.RowKit
structure Eff where
 v:PV
 bx:List (Nat×List PV)
 dis:Option Nat
 mx:List (Nat×PMap)
def PS.app (σ:PS) (dst:Option Nat) (e:Eff):PS where
 t:=match dst with
  |some d=>upd (match e.dis with|some s=>upd σ.t s (σ.t s).bare|none=>σ.t) d e.v
  |none=>(match e.dis with|some s=>upd σ.t s (σ.t s).bare|none=>σ.t)
 b:=e.bx.foldl (fun b x=>upd b x.1 (some x.2)) σ.b
 m:=e.mx.foldl (fun b x=>upd b x.1 (some x.2)) σ.m
def takeE (σ:PS):Operand→Eff
 | .tmp s=>if (σ.t s).ownB then ⟨σ.t s,[],some s,[]⟩ else ⟨(σ.t s).bare,[],none,[]⟩
 |x=>⟨pev σ x,[],none,[]⟩
def asOwn (e k:Nat):PV→Option (Nat×List PV)
 | .nilsl=>some (0,[])
 | .sl n k' cs (some e')=>if k' = k∧(e' = e∨e' = e+1000000) then some (n,cs) else none
 |_=>none
def fullB (e:TypeId):PV→Bool
 | .sl _ _ _ (some e')=>decide (e'≠e)
 |_=>false
def asSrc (k:Nat):PV→Option (Nat×List PV)
 | .nilsl=>some (0,[])
 | .sl n k' cs _=>if k' = k then some (n,cs) else none
 |_=>none
def ownPV (σ:PS):Operand→PV
 | .tmp s=>σ.t s
 |x=>pev σ x
def disOf:Operand→Option Nat
 | .tmp s=>some s
 |_=>none
open Classical in
noncomputable def pappend (e k by_:Nat) (p q:PV) (s:Option Nat):Option Eff:=
 match asOwn e k p,asSrc k q with
 |some x,some y=>if (x.1+y.1) * by_≤140737488355328∧x.1+y.1≤140737488355328∧y.2.all PV.one∧e < 1000000∧(fullB e p=false∨0 < y.1) then some ⟨.sl (x.1+y.1) k (x.2 ++ y.2) (some e),[],s,[]⟩ else none
 |_,_=>none
open Classical in
noncomputable def pmake (k by_:Nat) (zr:List PV) (x y:Int):Option (Nat×List PV):=
 if 0≤x∧x=y∧(by_:Int) * x≤281474976710656∧x≤9223372036854775807 then some (x.toNat,(List.replicate x.toNat zr).flatten) else none
def ploadO (T:Tab) (hd:Bool) (b:Nat→Option (List PV)) (t:TypeId):PV→Option Eff
 | .ptr j off=>if hd then (match b j with
  |some bs=>match bs[off]? with
   |some (.sl n k cs (some E))=>match T.at t with
    |some ti=>if ti.agg=false then some ⟨.sl n k cs (some E),[(j,bs.set off (.sl n k cs none))],none,[]⟩ else none
    |none=>none
   |_=>none
  |none=>none) else none
 |_=>none
noncomputable def presE (T:Tab) (hd:Bool) (id:Nat) (σ:PS):Op→Option Eff
 | .assign x=>some (takeE σ x)
 | .move x=>if hd then some (takeE σ x) else some ⟨pev σ x,[],none,[]⟩
 | .alloc e=>match T.at e,σ.b id,σ.m id with
  |some ti,none,none=>some ⟨.ptr id 0,[(id,ti.zero)],none,[]⟩
  |_,_,_=>none
 | .box _ x=>match pcells (pev σ x),σ.b id,σ.m id with
  |some cs,none,none=>some ⟨.ptr id 0,[(id,cs)],none,[]⟩
  |_,_,_=>none
 | .store t x y=>match pev σ x with
  | .ptr j off=>if (ownPV σ y).ownB then (match σ.b j,T.at t with
    |some bs,some ti=>if ti.size=1∧off+1≤bs.length then some ⟨.tup [],[(j,bs.set off (ownPV σ y))],disOf y,[]⟩ else none
    |_,_=>none)
   else match σ.b j,T.at t,pcells (pev σ y) with
   |some bs,some ti,some new=>if new.length=ti.size∧off+new.length≤bs.length then some ⟨.tup [],[(j,splF bs off new)],none,[]⟩ else none
   |_,_,_=>none
  |_=>none
 | .load t x=>match ploadO T hd σ.b t (pev σ x) with
  |some E=>some E
  |none=>(pvalA T σ (.load t x)).map fun v=>⟨v,[],none,[]⟩
 | .buildSlice t len parts=>match T.at t with
  |some ti=>match ti.kind with
   | .slice e k _ zr=>if len * k≤16777216∧e < 1000000 then (pfill (fun i=>some (i * k,k)) ((List.replicate len zr).flatten) (parts.toList.map fun x=>(x.1,pev σ x.2))).map fun cs=>⟨.sl len k cs (some e),[],none,[]⟩ else none
   |_=>none
  |none=>none
 | .makeSlice t l c=>match T.at t,pev σ l,pev σ c,σ.b id,σ.m id with
  |some ti, .val (.int _ x), .val (.int _ y),none,none=>match ti.kind with
   | .slice _ k by_ zr=>match pmake k by_ zr x y with
    |some r=>some ⟨.msl id 0 r.1 k,[(id,r.2)],none,[]⟩
    |none=>none
   |_=>none
  |_,_,_,_,_=>none
 | .call c=>match c.callee with
  | .builtin .append=>match c.args.toList,c.argTypes.toList with
   | [s,x],[t,t']=>if t' = t then (match T.at t with
     |some ti=>match ti.kind with
      | .slice e k by_ _=>pappend e k by_ (ownPV σ s) (pev σ x) (disOf s)
      |_=>none
     |none=>none) else none
   |_,_=>none
  |_=>(pvalA T σ (.call c)).map fun v=>⟨v,[],none,[]⟩
 |op=>(pvalA T σ op).map fun v=>⟨v,[],none,[]⟩
def noDst:Op→Bool
 | .store .. | .mapUpdate .. | .insert .. => true
 |_=>false
def needDst:Op→Bool
 | .store .. | .mapUpdate .. | .insert .. => false
 | .call c=>match c.callee with
  | .builtin .delete | .builtin .copy | .builtin .clear | .value _ | .invoke .. => false
  |_=>true
 |_=>true
theorem pvalA_need {T:Tab} {σ:PS} {op:Op} {p:PV} (h:pvalA T σ op=some p):needDst op=true:=by
 unfold pvalA at h
 cases op with
 |call c=>
  obtain ⟨callee,args,argTypes⟩:=c
  cases callee with
  |builtin b=>cases b<;>first|rfl|simp [pval,pvalX] at h
  |_=>simp [pval,pvalX] at h
 |store=>simp [pval,pvalX] at h
 |mapUpdate=>simp [pval,pvalX] at h
 |insert=>simp [pval,pvalX] at h
 |_=>rfl
end
section
open Go.RowKit
variable {Φ0:Ent} {W:World} {M:Nat} {Φ:Imm} {μ:Nat→Option Nat} {ω:Nat→Option Who} {σ:PS} {a:Act} {w:World} {P:Program} {T:Tab}
def Does (P:Program) (Φ0:Ent) (W:World) (M:Nat) (a:Act) (w:World) (o:Oper) (σ' : PS):Prop:=
 ∃nx v w',(execOp a.eval o).run P w = .ok nx w'∧(nx = .value v∨nx = .skip∧v=undef)∧Rel Φ0 W M σ' (a.put o.dst v) w'
theorem does_val (h:RelG Φ0 W M Φ μ ω σ a w) (o:Oper) {d:Nat} (hd:o.dst=some d) (hM:d < M) {p:PV} {v:Value} (hr:(execOp a.eval o).run P w = .ok (.value v) w) (hp:Rep Φ μ p v) (ho:p.ownB=false) :
  Does P Φ0 W M a w o (σ.app o.dst ⟨p,[],none,[]⟩):=by
 refine ⟨_,v,w,hr, .inl rfl,Φ,μ,ω,?_⟩
 rw [hd]
 exact h.put hM hp ho
theorem does_take (h:RelG Φ0 W M Φ μ ω σ a w) (o:Oper) {d:Nat} (hd:o.dst=some d) (hM:d < M) (x:Operand) (hr:(execOp a.eval o).run P w = .ok (.value (a.eval x)) w):Does P Φ0 W M a w o (σ.app o.dst (takeE σ x)):=by
 cases x with
 |tmp s=>
  simp only [takeE]
  split
  ·rename_i hown
   obtain ⟨n,k,cs,E,hs⟩:∃n k cs E,σ.t s = .sl n k cs (some E):=by
    cases hσ:σ.t s with
    |sl n k cs own=>cases own with
     |none=>rw [hσ] at hown;simp [PV.ownB] at hown
     |some E=>exact ⟨n,k,cs,E,rfl⟩
    |_=>rw [hσ] at hown;simp [PV.ownB] at hown
   obtain ⟨ω',h'⟩:=h.moveOwn hM hs
   refine ⟨_,a.eval (.tmp s),w,hr, .inl rfl,Φ,μ,ω',?_⟩
   rw [hd]
   exact h'
  ·exact does_val h o hd hM hr (h.tmps s).bare (PV.bare_own _)
 |const v=>exact does_val h o hd hM hr (h.ev (.const v)) (pev_own σ _)
 |global g=>exact does_val h o hd hM hr (h.ev (.global g)) (pev_own σ _)
 |func f=>exact does_val h o hd hM hr (h.ev (.func f)) (pev_own σ _)
theorem zero_rows {zr:List PV} {z:Array Value} {k len:Nat} (hk:z.size=k) (hpos:0 < k) (hr:RepL Φ μ zr z.toList) (hone:∀c∈z.toList,c.oneCell' = true) (hno:∀c∈zr,c.ownB=false) :
  CellsR Φ μ ((List.replicate len zr).flatten) ((Array.range (len * k)).map (fun i=>z[i % z.size]!)).toList:=by
 have hzl:zr.length=k:=by rw [←hr.1];simpa using hk
 have hget:∀j,((List.replicate len zr).flatten)[j]? = if j < len * k then zr[j % k]? else none:=by
  induction len with
  |zero=>intro j;simp
  |succ len ih=>
   intro j
   rw [List.replicate_succ,List.flatten_cons]
   by_cases hj:j < k
   ·rw [List.getElem?_append_left (by omega),if_pos (by rw [Nat.succ_mul];omega),Nat.mod_eq_of_lt hj]
   ·rw [List.getElem?_append_right (by omega),hzl,ih]
    have e1:(j - k) % k=j % k:=by rw [Nat.mod_eq_sub_mod (a:=j) (by omega)]
    rw [e1]
    by_cases h1:j - k < len * k
    ·rw [if_pos h1,if_pos (by rw [Nat.succ_mul];omega)]
    ·rw [if_neg h1,if_neg (by rw [Nat.succ_mul];omega)]
 have hz:∀j,j < len * k→((Array.range (len * k)).map (fun i=>z[i % z.size]!)).toList[j]? = z.toList[j % k]?:=by
  intro j hj
  have:j % k < z.size:=by rw [hk];exact Nat.mod_lt _ hpos
  simp [hj,hk,this,getElem!_pos]
  rw [getElem!_pos z _ this,Array.getElem?_eq_getElem this]
 refine ⟨⟨?_,fun j c u h1 h2=>?_⟩,fun u hu=>?_,fun c hc=>?_⟩
 ·simp [hzl]
 ·rw [hget] at h1
  split at h1
  ·rename_i hj
   rw [hz j hj] at h2
   exact hr.2 _ c u h1 h2
  ·cases h1
 ·obtain ⟨j,hj⟩:=List.getElem?_of_mem hu
  have hlt:j < len * k:=by have:=(List.getElem?_eq_some_iff.1 hj).1;simpa using this
  rw [hz j hlt] at hj
  exact hone u (mem_of_get hj)
 ·obtain ⟨l,hl,hcl⟩:=List.mem_flatten.1 hc
  rw [List.eq_of_mem_replicate hl] at hcl
  exact hno c hcl
theorem parts_rep (h:RelG Φ0 W M Φ μ ω σ a w) (parts:Array (Nat×Operand)):∀(j:Nat) i p i' v,(parts.toList.map fun x=>(x.1,pev σ x.2))[j]? = some (i,p)→(parts.toList.map fun x=>(x.1,a.eval x.2))[j]? = some (i',v)→i' = i∧Rep Φ μ p v:=by
 intro j i p i' v h1 h2
 rw [List.getElem?_map] at h1 h2
 obtain ⟨x,hx,e⟩:=Option.map_eq_some_iff.1 h1
 rw [hx] at h2
 simp at h2 e
 obtain ⟨rfl,rfl⟩:=e
 obtain ⟨rfl,rfl⟩:=h2
 exact ⟨rfl,h.ev x.2⟩
theorem does_append_core (h:RelG Φ0 W M Φ μ ω σ a w) (o:Oper) {d:Nat} (hd:o.dst=some d) (hM:d < M) {s x:Operand} {t:TypeId} (hop:o.op = .call { callee:=.builtin .append,args := #[s,x],argTypes := #[t,t] })
  {ti:TyI} (ht:tyI P t=some ti) {e k by_:Nat} {zr:List PV} (hk:ti.kind = .slice e k by_ zr) {n m:Nat} {cs ds:List PV} (hX:asOwn e k (ownPV σ s)=some (n,cs)) (c1:(n+m) * by_≤140737488355328) (c2:n+m≤140737488355328) (ce:e < 1000000) (cf:fullB e (ownPV σ s)=false∨0 < m)
  (hx:∃ad cx news,a.eval x = .slice ad m cx∧(0 < m→∃adr,ad=some adr∧∀j u,news[j]? = some u→w.cell? (adr.add j)=some u)∧RepL Φ μ ds news∧(∀u∈news,u.oneCell' = true)∧ds.length=m * k):Does P Φ0 W M a w o (σ.app o.dst ⟨.sl (n+m) k (cs ++ ds) (some e),[],disOf s,[]⟩):=by
 obtain ⟨hu,i,z,e1,e2,e3,e4,e5,e6,-,-⟩:=slice_get ht hk
 have hrun:∀v' w',(Builtin.append_ #[t,t] o.type #[a.eval s,a.eval x]).run P w = .ok v' w'→(execOp a.eval o).run P w = .ok (.value v') w':=by
  intro v' w' hr
  simp only [execOp,hop,resolve,invoke,builtin,Sem.run_bind,Sem.run_pure,Result.andThen_ok,List.map_toArray,List.map_cons,List.map_nil,hr]
 have hml:n+m≤maxLen:=by unfold maxLen;omega
 obtain ⟨ad,cx,news,hxv,hxa,hxr,hxo,hdl⟩:=hx
 have hnl:news.length=m * k:=by rw [hxr.1,hdl]
 -- a new block
 have fresh:∀(v' : Value) (xs:List Value) (cap:Nat) (rest:Array Value),RepL Φ μ cs xs→xs.length=n * k→n+m≤cap→cap≤maxLen→(xs.toArray ++ news.toArray ++ rest).size=cap * k →
   (Builtin.append_ #[t,t] o.type #[a.eval s,a.eval x]).run P w = .ok (.slice (some ⟨w.heap.size,0,none⟩) (n+m) cap) (w.drew.alloc (.cells (xs.toArray ++ news.toArray ++ rest) e))→Does P Φ0 W M a w o (σ.app o.dst ⟨.sl (n+m) k (cs ++ ds) (some e),[],disOf s,[]⟩):=by
  intro v' xs cap rest hxs hxl hcap hcm hsz hr
  have hL:(cs ++ ds).length=(n+m) * k:=by rw [List.length_append,←hxs.1,hxl,hdl,Nat.add_mul]
  have htake:(xs.toArray ++ news.toArray ++ rest).toList.take ((n+m) * k)=xs ++ news:=by
   simp only [Array.toList_append]
   rw [←hL,List.length_append,←hxs.1,←hxr.1,←List.length_append]
   exact List.take_left
  have hrep:RepL Φ μ (cs ++ ds) (xs ++ news):=by
   refine ⟨by simp [hxs.1,hxr.1],fun j c u h1 h2=>?_⟩
   by_cases hj:j < cs.length
   ·rw [List.getElem?_append_left hj] at h1
    rw [List.getElem?_append_left (by rw [hxs.1];exact hj)] at h2
    exact hxs.2 j c u h1 h2
   ·rw [List.getElem?_append_right (by omega)] at h1
    rw [List.getElem?_append_right (by rw [hxs.1];omega),hxs.1] at h2
    exact hxr.2 _ c u h1 h2
  obtain ⟨Φ',ω',h',-⟩:=h.drew.newOwn (d:=d) hM (N:=n+m) (k:=k) (cap:=cap) (L:=cs ++ ds) (cur:=xs.toArray ++ news.toArray ++ rest) (e:=e) hL (by rw [htake];exact hrep) hcap hcm hsz ce
  refine ⟨_,_,_,hrun _ _ hr, .inl rfl,?_⟩
  rw [hd]
  cases s with
  |tmp s=>
   have h2:=h'.strip s
   refine ⟨Φ',μ,ω',?_⟩
   simp only [PS.app,disOf,List.foldl_nil,List.foldl_cons]
   by_cases hsd:s=d
   ·subst hsd
    have e9:upd (upd σ.t s (σ.t s).bare) s (.sl (n+m) k (cs ++ ds) (some e))=upd σ.t s (.sl (n+m) k (cs ++ ds) (some e)):=by
     funext j;simp only [upd_if];by_cases hj:j=s<;>simp [hj]
    simp only [e9]
    exact h'
   ·have e9:upd (upd σ.t s (σ.t s).bare) d (.sl (n+m) k (cs ++ ds) (some e))=upd (upd σ.t d (.sl (n+m) k (cs ++ ds) (some e))) s (σ.t s).bare:=upd_comm _ _ _ hsd
    simp only [e9]
    have e10:(PS.put σ d (.sl (n+m) k (cs ++ ds) (some e))).t s=σ.t s:=by simp [PS.put,upd_if,hsd]
    rw [e10] at h2
    exact h2
  |const v=>exact ⟨Φ',μ,ω',h'⟩
  |global v=>exact ⟨Φ',μ,ω',h'⟩
  |func v=>exact ⟨Φ',μ,ω',h'⟩
 -- what is appended to
 have hsrc:(a.eval s = .slice none 0 0∧n=0∧cs = []∧(ownPV σ s).ownB=false)∨(∃s' e',s = .tmp s'∧σ.t s' = .sl n k cs (some e')∧(e' = e∨e' = e+1000000)):=by
  unfold asOwn at hX
  split at hX
  ·rename_i hq
   simp at hX
   obtain ⟨rfl,rfl⟩:=hX
   left
   have:Rep Φ μ .nilsl (a.eval s):=by
    cases s with
    |tmp s' => have:=h.tmps s'; simp only [ownPV] at hq;rw [hq] at this;exact this
    |const v=>have:=h.ev (.const v);simp only [ownPV] at hq;rw [←hq];exact this
    |global v=>have:=h.ev (.global v);simp only [ownPV] at hq;rw [←hq];exact this
    |func v=>have:=h.ev (.func v);simp only [ownPV] at hq;rw [←hq];exact this
   exact ⟨this.nilsl_inv,rfl,rfl,by rw [hq];rfl⟩
  ·rename_i n' k' cs' e' hq
   split at hX
   ·rename_i hkk
    obtain ⟨rfl,hee⟩:=hkk
    simp at hX
    obtain ⟨rfl,rfl⟩:=hX
    right
    cases s with
    |tmp s' => exact ⟨s',e',rfl,hq,hee⟩
    |const v=>have:=pvC_own v;simp only [ownPV,pev] at hq;rw [hq] at this;simp [PV.ownB] at this
    |global g=>have:=globPV_own g globTab;simp only [ownPV,pev] at hq;rw [hq] at this;simp [PV.ownB] at this
    |func f=>cases hblt:Nat.blt f 1000000<;>simp [ownPV,pev,hblt] at hq
   ·cases hX
  ·cases hX
 by_cases hm:m=0
 ·-- nothing is appended
  subst hm
  have hds:ds = []:=List.eq_nil_of_length_eq_zero (by simpa using hdl)
  subst hds
  simp only [Nat.add_zero,List.append_nil]
  rcases hsrc with ⟨hs,rfl,rfl,hno⟩|⟨s',e',rfl,hs,hee⟩
  ·refine ⟨_, .slice none 0 0,w,hrun _ _ (by rw [hs,hxv];exact run_append0 w t _ e i hu e1 none ad 0 0 cx (Nat.le_refl _)), .inl rfl,?_⟩
   rw [hd]
   have hput:∀σ1:PS,RelG Φ0 W M Φ μ ω σ1 a w→RelG Φ0 W M Φ μ ω (σ1.put d (.sl 0 k [] (some e))) (a.put (some d) (.slice none 0 0)) w:=by
    intro σ1 h1
    have h2:=h1.put (p:=.nilsl) hM .nilsl rfl
    have h3:=h2.forget (upd (σ1.put d .nilsl).t d (.sl 0 k [] (some e))) (fun u=>by
     by_cases hu:u=d
     ·subst hu;right;right;right;exact ⟨k,e,by simp [upd_if],by simp [PS.put,upd_if]⟩
     ·right;left;simp [upd_if,hu])
    have e' : upd (σ1.put d .nilsl).t d (.sl 0 k [] (some e))=upd σ1.t d (.sl 0 k [] (some e)):=by
     funext j;simp only [PS.put,upd_if];by_cases hj:j=d<;>simp [hj]
    rw [e'] at h3
    exact h3
   cases s with
   |tmp s' => exact ⟨Φ,μ,ω,hput _ (h.strip s')⟩
   |const v=>exact ⟨Φ,μ,ω,hput _ h⟩
   |global v=>exact ⟨Φ,μ,ω,hput _ h⟩
   |func v=>exact ⟨Φ,μ,ω,hput _ h⟩
  ·have hsv:=h.tmps s'
   rw [hs] at hsv
   obtain ⟨ad',b,off,cap,us,hv,q1,-⟩:=hsv.sl_inv
   obtain ⟨ω',h'⟩:=h.moveOwn hM hs
   refine ⟨_,a.eval (.tmp s'),w,hrun _ _ ?_, .inl rfl,Φ,μ,ω',?_⟩
   ·rw [hxv,show a.eval (.tmp s') = .slice ad' n cap from hv];exact run_append0 w t _ e i hu e1 ad' ad n cap cx q1
   ·have hee' : e' = e:=by
     rcases cf with cf|cf
     ·simp only [ownPV,hs,fullB,decide_eq_false_iff_not,ne_eq,Decidable.not_not] at cf;exact cf
     ·omega
    subst hee'
    rw [hd]
    simp only [PS.app,disOf,List.foldl_nil,List.foldl_cons]
    rw [hs] at h' ⊢
    exact h'
 ·obtain ⟨adr,rfl,hcells⟩:=hxa (by omega)
  rcases hsrc with ⟨hs,rfl,rfl,hno⟩|⟨s',e',rfl,hs,hee⟩
  ·have hr:=run_append_nil (P:=P) w t o.type e i z hu e1 e2 adr m cx news (by rw [hnl,e3]) hcells (by omega) (by omega) (by rw [e4];rw [Nat.zero_add] at c1;omega)
   refine fresh undef [] (grownCap w m 0 e) (Builtin.zeroCells z.cells (grownCap w m 0 e - m)) RepL.nil (by simp) ?_ ?_ ?_ ?_
   ·rw [Nat.zero_add];exact grownCap_ge w m 0 e
   ·exact grownCap_le_maxLen w m 0 e (by omega)
   rotate_left
   ·rw [hs,hxv,Nat.zero_add]
    simpa using hr
   ·have hge:=grownCap_ge w m 0 e
    simp only [Array.size_append,List.size_toArray,size_zeroCells,hnl,e5,List.length_nil,Nat.zero_add,←Nat.add_mul]
    congr 1
    omega
  ·have ho:=h.own s' n k cs e' hs
   have hsr:=h.tmps s'
   rw [hs] at hsr
   have hcsl:cs.length=n * k:=by obtain ⟨_,_,_,_,_,_,_,_,h3,_⟩:=hsr.sl_inv;exact h3
   have nilc:a.eval (.tmp s') = .slice none 0 0→n=0→Does P Φ0 W M a w o (σ.app o.dst ⟨.sl (n+m) k (cs ++ ds) (some e),[],some s',[]⟩):=by
    intro hs0 hn0
    subst hn0
    have hcs:cs = []:=List.eq_nil_of_length_eq_zero (by simpa using hcsl)
    subst hcs
    have hr:=run_append_nil (P:=P) w t o.type e i z hu e1 e2 adr m cx news (by rw [hnl,e3]) hcells (by omega) (by omega) (by rw [e4];rw [Nat.zero_add] at c1;omega)
    refine fresh undef [] (grownCap w m 0 e) (Builtin.zeroCells z.cells (grownCap w m 0 e - m)) RepL.nil (by simp) ?_ ?_ ?_ ?_
    ·rw [Nat.zero_add];exact grownCap_ge w m 0 e
    ·exact grownCap_le_maxLen w m 0 e (by omega)
    rotate_left
    ·rw [hs0,hxv,Nat.zero_add]
     simpa using hr
    ·have hge:=grownCap_ge w m 0 e
     simp only [Array.size_append,List.size_toArray,size_zeroCells,hnl,e5,List.length_nil,Nat.zero_add,←Nat.add_mul]
     congr 1
     omega
   have grow:∀(ad2:Addr) cap,a.eval (.tmp s') = .slice (some ad2) n cap→cap≤maxLen→¬(n+m≤cap)→Does P Φ0 W M a w o (σ.app o.dst ⟨.sl (n+m) k (cs ++ ds) (some e),[],some s',[]⟩):=by
    intro ad2 cap hsv hcapm hroom
    have hsr:=h.tmps s'
    rw [hs,show a.tmps.getD s' undef = .slice (some ad2) n cap from hsv] at hsr
    obtain ⟨xs,hxs,hcx⟩:∃xs,RepL Φ μ cs xs∧∀j u,xs[j]? = some u→w.cell? (ad2.add j)=some u:=by
     cases hsr with
     |sl0=>exact ⟨[],RepL.nil,fun j u hj=>by simp at hj⟩
     |sl _ _ _ _ _ _ _ us _ _ _ hp hrr=>
      refine ⟨_,repL_of_us cs us hrr,fun j u hj=>?_⟩
      have hjl:j < cs.length:=by have:=(List.getElem?_eq_some_iff.1 hj).1;simpa using this
      simp [hjl] at hj
      subst hj
      rw [Addr.add_lit]
      exact h.imm _ _ _ (hp j hjl)
    have hxl:xs.length=n * k:=by rw [hxs.1,hcsl]
    have hr:=run_append_grow (P:=P) w t o.type e i z hu e1 e2 ad2 n cap xs (by rw [hxl,e3]) hcx adr m cx news (by rw [hnl,e3]) hcells (by omega) (by omega) (growslice_fits (by omega) (by rw [e4];exact c1))
    refine fresh undef xs (grownCap w (n+m) cap e) (Builtin.zeroCells z.cells (grownCap w (n+m) cap e - (n+m))) hxs hxl (grownCap_ge w _ _ e) (grownCap_le_maxLen w _ _ e hml) ?_ ?_
    rotate_left
    ·rw [hsv,hxv]
     exact hr
    ·have hge:=grownCap_ge w (n+m) cap e
     simp only [Array.size_append,List.size_toArray,size_zeroCells,hxl,hnl,e5,←Nat.add_mul]
     congr 1
     omega
   rcases ho with ⟨hnil,hn0⟩|⟨g,cap,cur,hv,hB,hg,q1,q2,q3,q4,q5⟩|⟨-,ad2,hfl⟩
   ·exact nilc hnil hn0
   ·have hsv:a.eval (.tmp s') = .slice (some ⟨g,0,none⟩) n cap:=hv
    by_cases hroom:n+m≤cap
    ·have hfit:n * i.size+news.length≤cur.size:=by rw [hnl,q3,e3,←Nat.add_mul];exact Nat.mul_le_mul_right _ hroom
     have hee' : e' = e:=by
      rcases hee with h0|h0
      ·exact h0
      ·have h6:=q5.1
       rw [h0] at h6
       exact absurd h6 (Nat.not_lt.2 (Nat.le_add_left _ _))
     subst hee'
     have hr:=run_append_room (P:=P) w t o.type e' i hu e1 g n cap cur hg adr m cx news (by rw [hnl,e3]) hcells hxo hroom hfit
     obtain ⟨Φ',ω',h'⟩:=h.appendIn hM hs hv hg hroom q3 q4 q5.1 q5.2 hB q2 hdl hxr
     refine ⟨_,_,_,hrun _ _ (by rw [hsv,hxv];exact hr), .inl rfl,Φ',μ,ω',?_⟩
     rw [hd,e3]
     exact h'
    ·exact grow _ cap hsv q2 hroom
   ·cases ad2 with
    |none=>
     have hn0:n=0:=by
      rw [hfl] at hsr
      cases hsr
      rfl
     subst hn0
     exact nilc hfl rfl
    |some ad2=>
     have hnm:n≤maxLen:=by
      rw [hfl] at hsr
      obtain ⟨_,_,_,_,_,he,_,hh,_⟩:=hsr.sl_inv
      cases he;exact hh
     exact grow ad2 n hfl hnm (by omega)
theorem does_append (h:RelG Φ0 W M Φ μ ω σ a w) (o:Oper) {d:Nat} (hd:o.dst=some d) (hM:d < M) {s x:Operand} {t:TypeId} (hop:o.op = .call { callee:=.builtin .append,args := #[s,x],argTypes := #[t,t] })
  {ti:TyI} (ht:tyI P t=some ti) {e k by_:Nat} {zr:List PV} (hk:ti.kind = .slice e k by_ zr) {E:Eff} (hp:pappend e k by_ (ownPV σ s) (pev σ x) (disOf s)=some E):Does P Φ0 W M a w o (σ.app o.dst E):=by
 unfold pappend at hp
 split at hp
 case h_2=>cases hp
 rename_i X Y hX hY
 split at hp
 case isFalse=>cases hp
 rename_i hc
 obtain ⟨c1,c2,c3,ce,cf⟩:=hc
 cases hp
 obtain ⟨n,cs⟩:=X
 obtain ⟨m,ds⟩:=Y
 simp only at c1 c2 c3 cf
 -- what is appended
 have hx:∃ad cx news,a.eval x = .slice ad m cx∧(0 < m→∃adr,ad=some adr∧∀j u,news[j]? = some u→w.cell? (adr.add j)=some u)∧RepL Φ μ ds news∧(∀u∈news,u.oneCell' = true)∧ds.length=m * k:=by
  have hxr:=h.ev x
  unfold asSrc at hY
  split at hY
  ·rename_i hq
   simp at hY
   obtain ⟨rfl,rfl⟩:=hY
   rw [hq] at hxr
   exact ⟨none,0,[],hxr.nilsl_inv,fun h=>by omega,RepL.nil,by simp,by simp⟩
  ·rename_i n' k' cs' own hq
   split at hY
   ·rename_i hkk
    subst hkk
    simp at hY
    obtain ⟨rfl,rfl⟩:=hY
    rw [hq] at hxr
    obtain ⟨ad,b,off,cap,us,hv,q1,q2,q3,q4,q5,q6⟩:=hxr.sl_inv
    have hrl:=repL_of_us cs' us q6
    refine ⟨ad,cap,_,hv,fun hpos=>⟨_,q4 hpos,?_⟩,hrl,repL_one hrl c3,q3⟩
    intro j u hj
    rw [Addr.add_lit]
    have hjl:j < cs'.length:=by have:=(List.getElem?_eq_some_iff.1 hj).1;simpa using this
    simp [hjl] at hj
    subst hj
    exact h.imm _ _ _ (q5 j hjl)
   ·cases hY
  ·cases hY
 exact does_append_core h o hd hM hop ht hk hX c1 c2 ce cf hx
theorem does_append_msl (h:RelG Φ0 W M Φ μ ω σ a w) (o:Oper) {d:Nat} (hd:o.dst=some d) (hM:d < M) {s x:Operand} {t:TypeId} (hop:o.op = .call { callee:=.builtin .append,args := #[s,x],argTypes := #[t,t] })
  {ti:TyI} (ht:tyI P t=some ti) {e k by_:Nat} {zr:List PV} (hk:ti.kind = .slice e k by_ zr) {n m id off:Nat} {cs bs:List PV} (hX:asOwn e k (ownPV σ s)=some (n,cs)) (c1:(n+m) * by_≤140737488355328) (c2:n+m≤140737488355328) (ce:e < 1000000) (cf:fullB e (ownPV σ s)=false∨0 < m)
  (hxm:pev σ x = .msl id off m k) (hb:σ.b id=some bs) (hle:off+m * k≤bs.length):Does P Φ0 W M a w o (σ.app o.dst ⟨.sl (n+m) k (cs ++ ((bs.drop off).take (m * k)).map PV.bare) (some e),[],disOf s,[]⟩):=by
 refine does_append_core h o hd hM hop ht hk hX c1 c2 ce cf ?_
 have hxr:=h.ev x
 rw [hxm] at hxr
 obtain ⟨ad,cap,hxv,-,-,c4⟩:=hxr.msl_inv
 obtain ⟨g,cur,Ty,b1,b2,b3,b4,b5,b6,b7⟩:=h.box id bs hb
 have hat:∀j,j < m * k→∃c u,bs[off+j]? = some c∧cur[off+j]? = some u∧u.oneCell' = true∧Rep Φ μ c u:=fun j hj=>by
  have hc:bs[off+j]? = some bs[off+j]:=List.getElem?_eq_getElem (by omega)
  obtain ⟨u,r1,r2,r3,-⟩:=b7 (off+j) _ hc
  exact ⟨_,u,hc,r1,r2,r3⟩
 have hget:∀j u,((List.range (m * k)).map fun j=>cur.getD (off+j) undef)[j]? = some u→j < m * k∧u=cur.getD (off+j) undef:=fun j u hj=>by
  have hjl:j < m * k:=by have:=(List.getElem?_eq_some_iff.1 hj).1;simpa using this
  rw [List.getElem?_map,List.getElem?_range hjl] at hj
  exact ⟨hjl,(Option.some.inj hj).symm⟩
 have hcur:∀j u,cur[off+j]? = some u→cur.getD (off+j) undef=u:=fun j u hj=>by
  rw [Array.getD_eq_getD_getElem?,hj];rfl
 refine ⟨ad,cap,(List.range (m * k)).map fun j=>cur.getD (off+j) undef,hxv,fun hm=>?_,⟨?_,fun j c u hc hu=>?_⟩,fun u hu=>?_,?_⟩
 ·obtain ⟨g',hg',rfl⟩:=c4 hm
  rw [b1] at hg'; cases hg'
  refine ⟨_,rfl,fun j u hj=>?_⟩
  obtain ⟨hjl,rfl⟩:=hget j u hj
  obtain ⟨c,u,-,r1,-,-⟩:=hat j hjl
  rw [hcur j u r1,Addr.add_lit]
  simp only [World.cell?,b2]
  simpa using r1
 ·simp only [List.length_map,List.length_range,List.length_take,List.length_drop]
  omega
 ·obtain ⟨hjl,rfl⟩:=hget j u hu
  obtain ⟨c',u,q1,r1,-,r3⟩:=hat j hjl
  rw [List.getElem?_map,List.getElem?_take,if_pos hjl,List.getElem?_drop,q1] at hc
  cases hc
  rw [hcur j u r1]
  exact r3.bare
 ·obtain ⟨j,hj,rfl⟩:=List.mem_map.1 hu
  obtain ⟨c',u,q1,r1,r2,-⟩:=hat j (List.mem_range.1 hj)
  rw [hcur j u r1]
  exact r2
 ·simp only [List.length_map,List.length_take,List.length_drop]
  omega
theorem presE_sound (hT:T=tabOf P) (h:RelG Φ0 W M Φ μ ω σ a w) (o:Oper) {hd:Bool} {id:Nat} (hidl:id < 1000000) {E:Eff} (hp:presE T hd id σ o.op=some E) (hdst:∀d,o.dst=some d→d < M) (hkind:(noDst o.op=true→o.dst=none)∧(needDst o.op=true→o.dst.isSome=true)) :
  Does P Φ0 W M a w o (σ.app o.dst E):=by
 obtain ⟨dst,op,ty,pos,after,guard⟩:=o
 simp only at hp hdst hkind
 have simple:∀p,pvalA T σ op=some p→dst.isSome=true→Does P Φ0 W M a w ⟨dst,op,ty,pos,after,guard⟩ (σ.app dst ⟨p,[],none,[]⟩):=by
  intro p hpv hds
  obtain ⟨d,rfl⟩:=Option.isSome_iff_exists.1 hds
  obtain ⟨v,r1,r2,r3⟩:=pvalA_sound hT h ⟨some d,op,ty,pos,after,guard⟩ hpv
  exact does_val h _ rfl (hdst d rfl) r1 r2 r3
 have other:∀E,(pvalA T σ op).map (fun v=>(⟨v,[],none,[]⟩:Eff))=some E→Does P Φ0 W M a w ⟨dst,op,ty,pos,after,guard⟩ (σ.app dst E):=by
  intro E hE
  obtain ⟨p,hpv,rfl⟩:=Option.map_eq_some_iff.1 hE
  exact simple p hpv (hkind.2 (pvalA_need hpv))
 unfold presE at hp
 split at hp
 ·rename_i x
  cases hp
  obtain ⟨d,rfl⟩:=Option.isSome_iff_exists.1 (hkind.2 rfl)
  exact does_take h _ rfl (hdst d rfl) x (by simp [execOp])
 ·rename_i x
  obtain ⟨d,rfl⟩:=Option.isSome_iff_exists.1 (hkind.2 rfl)
  split at hp
  ·cases hp
   exact does_take h _ rfl (hdst d rfl) x (by simp [execOp])
  ·cases hp
   exact does_val h _ rfl (hdst d rfl) (by simp [execOp]) (h.ev x) (pev_own σ x)
 ·rename_i e
  obtain ⟨d,rfl⟩:=Option.isSome_iff_exists.1 (hkind.2 rfl)
  split at hp
  ·rename_i ti ht hb hmb
   cases hp
   obtain ⟨i,dd,z,g1,g2,g3,g4,g5,g6⟩:=tyI_parts (tab_at hT ht)
   have hz:ti.zero=z.cells.toList.map pv0:=by rw [g6]
   have h1:=h.newBox hidl hb hmb (bs:=ti.zero) (us:=z.cells.toList) (by rw [hz];exact repL_pv0 _) g5 (by rw [hz];intro c hc;obtain ⟨v,-,rfl⟩:=List.mem_map.1 hc;exact pv0_own v) e
   have h2:=h1.put (d:=d) (hdst d rfl) (p:=.ptr id 0) (.ptr id 0 w.heap.size (by simp [upd_if])) rfl
   refine ⟨_, .pointer (some ⟨w.heap.size,0,none⟩),w.alloc (.cells z.cells e),?_, .inl rfl,Φ,_,_,by rw [Array.toArray_toList] at h2;exact h2⟩
   simp [execOp,Instr.alloc,zeroValue,typeInfo,g1,g3,newVar,newRow]
  ·cases hp
 ·rename_i e x
  obtain ⟨d,rfl⟩:=Option.isSome_iff_exists.1 (hkind.2 rfl)
  split at hp
  ·rename_i cs hcs hb hmb
   cases hp
   have hc:=pcells_sound (h.ev x) hcs
   have h1:=h.newBox hidl hb hmb hc.1 hc.2.1 hc.2.2 e
   have h2:=h1.put (d:=d) (hdst d rfl) (p:=.ptr id 0) (.ptr id 0 w.heap.size (by simp [upd_if])) rfl
   refine ⟨_, .pointer (some ⟨w.heap.size,0,none⟩),w.alloc (.cells (a.eval x).cells e),?_, .inl rfl,Φ,_,_,by rw [Array.toArray_toList] at h2;exact h2⟩
   simp [execOp,Instr.box,newVar,newRow]
  ·cases hp
 ·rename_i t x y
  have hkd:dst=none:=hkind.1 rfl
  subst hkd
  split at hp
  ·rename_i j off hx
   have hxr:=h.ev x
   rw [hx] at hxr
   obtain ⟨g,hg,hv⟩:=hxr.ptr_inv
   split at hp
   ·rename_i hown
    split at hp
    ·rename_i bs ti hb ht
     split at hp
     ·rename_i hc
      cases hp
      obtain ⟨s,n,k,cs,E,rfl,hs⟩:∃s n k cs E,y = .tmp s∧σ.t s = .sl n k cs (some E):=by
       cases y with
       |tmp s=>
        simp only [ownPV] at hown
        cases hσ:σ.t s with
        |sl n k cs own=>cases own with
         |none=>rw [hσ] at hown;simp [PV.ownB] at hown
         |some E=>exact ⟨s,n,k,cs,E,rfl,hσ⟩
        |_=>rw [hσ] at hown;simp [PV.ownB] at hown
       |const v=>have:=pvC_own v;simp only [ownPV,pev] at hown;rw [this] at hown;cases hown
       |global g=>have:=globPV_own g globTab;simp only [ownPV,pev] at hown;rw [this] at hown;cases hown
       |func f=>cases hblt:Nat.blt f 1000000<;>simp [ownPV,pev,PV.ownB,hblt] at hown
      have hsr:=(h.tmps s)
      rw [hs] at hsr
      obtain ⟨o1,o2⟩:=hsr.one rfl
      have hcr:CellsR Φ μ [.sl n k cs none] [a.tmps.getD s undef]:=⟨RepL.cons hsr.bare RepL.nil,by simpa using o1,by simp [PV.ownB]⟩
      obtain ⟨w',r1,r2⟩:=h.store (P:=P) hb hcr (off:=off) (by simpa using hc.2) hg
      have hsp:(splice bs off [.sl n k cs none])[off]? = some (.sl n k cs none):=by
       simp only [splice]
       rw [List.append_assoc,List.getElem?_append_right (by rw [List.length_take];omega),List.length_take,show min off bs.length=off by omega]
       simp
      have hcell:w'.cell? ⟨g,off,none⟩=some (a.tmps.getD s undef):=by
       obtain ⟨g2,cur2,T2,q1,q2,q3,q4,q5,q6,q7⟩:=h.box j bs hb
       rw [hg] at q1;cases q1
       have hr:=run_storeCells_at P g off T2 [a.tmps.getD s undef] 0 cur2 w q2 (by simp;omega) (by simpa using o1)
       rw [Nat.add_zero] at hr
       rw [hr] at r1
       cases r1
       rw [cell_setRow_same w g off cur2 _ T2 _ q2,List.getElem?_toArray]
       rw [List.append_assoc,List.getElem?_append_right (by rw [List.length_take];omega),List.length_take,show min off cur2.toList.length=off by simp;omega]
       simp
      obtain ⟨ω',r3⟩:=r2.give (id:=j) (off:=off) (n:=n) (k:=k) (g:=g) (cs:=cs) (E:=E) (bs:=splice bs off [.sl n k cs none]) hs (by simp [upd_if]) hsp hg hcell
      obtain ⟨i,dd,z,g1,g2,g3,g4,g5,g6⟩:=tyI_parts (tab_at hT ht)
      refine ⟨_,undef,w',?_, .inr ⟨rfl,rfl⟩,Φ,μ,ω',?_⟩
      ·have hsz:(a.eval (.tmp s)).cells.size=i.size:=by
        have:a.eval (.tmp s)=a.tmps.getD s undef:=rfl
        rw [this,o2]
        have h1:=hc.1
        rw [g6] at h1
        exact h1.symm
       have hcl:(a.eval (.tmp s)).cells.toList = [a.tmps.getD s undef]:=by
        have:a.eval (.tmp s)=a.tmps.getD s undef:=rfl
        rw [this,o2]
       have r1':=r1
       simp only [Array.getD_eq_getD_getElem?] at r1'
       simp [execOp,Instr.storeAt,Instr.sureAddr,hv,storeVar,run_size g1,hsz,hcl,r1']
      ·have e1:upd (upd σ.b j (some (splice bs off [.sl n k cs none]))) j (some ((splice bs off [.sl n k cs none]).set off (.sl n k cs (some E))))=upd σ.b j (some (bs.set off (.sl n k cs (some E)))):=by
        have e2:(splice bs off [.sl n k cs none]).set off (.sl n k cs (some E))=bs.set off (.sl n k cs (some E)):=by
         apply List.ext_getElem?
         intro q
         simp only [List.getElem?_set,splice,List.length_append,List.length_take,List.length_drop,List.length_cons,List.length_nil]
         by_cases hq:off=q
         ·subst hq
          rw [if_pos rfl,if_pos rfl,if_pos (by omega),if_pos (by omega)]
         ·rw [if_neg hq,if_neg hq]
          by_cases hql:q < off
          ·rw [List.append_assoc,List.getElem?_append_left (by rw [List.length_take];omega),List.getElem?_take,if_pos hql]
          ·rw [List.getElem?_append_right (by rw [List.length_append,List.length_take];simp;omega),List.length_append,List.length_take,List.getElem?_drop]
           congr 1
           simp;omega
        rw [e2]
        funext q;simp only [upd_if];by_cases hq:q=j<;>simp [hq]
       simp only at r3
       rw [e1] at r3
       simp only [PS.app,ownPV,disOf,hs,List.foldl_nil,List.foldl_cons] at r3 ⊢
       exact r3
     ·cases hp
    ·cases hp
   ·split at hp
    ·rename_i bs ti new hb ht hnew
     split at hp
     ·rename_i hc
      cases hp
      have hcr:=pcells_sound (h.ev y) hnew
      obtain ⟨w',r1,r2⟩:=h.store (P:=P) hb hcr hc.2 hg
      rw [←splF_eq bs off new hc.2] at r2
      obtain ⟨i,dd,z,g1,g2,g3,g4,g5,g6⟩:=tyI_parts (tab_at hT ht)
      refine ⟨_,undef,w',?_, .inr ⟨rfl,rfl⟩,Φ,μ,ω,r2⟩
      have hsz:(a.eval y).cells.size=i.size:=by
       have:=hcr.1.1
       simp only [Array.length_toList] at this
       rw [this,hc.1,g6]
      simp [execOp,Instr.storeAt,Instr.sureAddr,hv,storeVar,run_size g1,hsz,r1]
     ·cases hp
    ·cases hp
  ·cases hp
 ·rename_i t x
  obtain ⟨d,rfl⟩:=Option.isSome_iff_exists.1 (hkind.2 rfl)
  split at hp
  ·rename_i E' hE
   cases hp
   unfold ploadO at hE
   split at hE
   ·rename_i j off hx
    split at hE
    ·split at hE
     ·rename_i bs hb
      split at hE
      ·rename_i n k cs E hbo
       split at hE
       ·rename_i ti ht
        split at hE
        ·rename_i hag
         cases hE
         have hxr:=h.ev x
         rw [hx] at hxr
         obtain ⟨g,hg,hv⟩:=hxr.ptr_inv
         obtain ⟨u,ω',hc,h'⟩:=h.fetch (d:=d) (hdst d rfl) hb hbo hg
         obtain ⟨i,dd,z,g1,g2,g3,g4,g5,g6⟩:=tyI_parts (tab_at hT ht)
         have hagg:aggD dd=false:=by rw [g6] at hag;exact hag
         refine ⟨_,u,w,?_, .inl rfl,Φ,μ,ω',h'⟩
         simp [execOp,Instr.loadAt,Instr.sureAddr,hv,loadVar,run_isAgg g2,hagg,hc]
        ·cases hE
       ·cases hE
      ·cases hE
     ·cases hE
    ·cases hE
   ·cases hE
  ·exact other E hp
 ·rename_i t len parts
  obtain ⟨d,rfl⟩:=Option.isSome_iff_exists.1 (hkind.2 rfl)
  split at hp
  ·rename_i ti ht
   split at hp
   ·rename_i e k by_ zr hk
    split at hp
    ·rename_i hle0
     obtain ⟨hle,hle2⟩:=hle0
     obtain ⟨cs,hcs,rfl⟩:=Option.map_eq_some_iff.1 hp
     obtain ⟨hu,i,z,e1,e2,e3,e4,e5,e6,e7,e8⟩:=slice_get (tab_at hT ht) hk
     subst e8
     have hzr:=zero_rows (Φ:=Φ) (μ:=μ) (len:=len) (z:=z.cells) e5 e6 (repL_pv0 _) e7 (by intro c hc;obtain ⟨v,-,rfl⟩:=List.mem_map.1 hc;exact pv0_own v)
     obtain ⟨cur,r1,r2⟩:=fill_sound (fun i=>some (i * k,k)) _ (parts.toList.map fun (x:Nat×Operand)=>(x.1,a.eval x.2)) _ _ _ hzr (by simp) (parts_rep h parts) hcs
     have hlen:cs.length=len * k:=by
      have hl:∀(ps:List (Nat×PV)) (c0 c1:List PV),pfill (fun i=>some (i * k,k)) c0 ps=some c1→c1.length=c0.length:=by
       intro ps
       induction ps with
       |nil=>intro c0 c1 hh;simp [pfill] at hh;rw [hh]
       |cons x ps ih=>
        intro c0 c1 hh
        simp only [pfill] at hh
        split at hh
        ·rename_i off size new hpl hnew
         split at hh
         ·rename_i hcc
          rw [ih _ _ hh,splF_eq _ _ _ (by omega)]
          simp only [splice,List.length_append,List.length_take,List.length_drop];omega
         ·cases hh
        ·cases hh
      rw [hl _ _ _ hcs,←hzr.1.1];simp
     have hcl:=r2.1.1
     simp only [Array.length_toList] at hcl
     obtain ⟨Φ',ω',h',-⟩:=h.newOwn (d:=d) (hdst d rfl) (N:=len) (k:=k) (cap:=len) (L:=cs) (cur:=cur) (e:=e) hlen (by rw [List.take_of_length_le (by simp;omega)];exact r2.1) (Nat.le_refl _) (by
      have:len≤len * k:=Nat.le_mul_of_pos_right _ e6
      unfold maxLen;omega) (by omega) hle2
     refine ⟨_, .slice (some ⟨w.heap.size,0,none⟩) len len,w.alloc (.cells cur e),?_, .inl rfl,Φ',μ,ω',h'⟩
     have hnle:¬(len * k > 2 ^ 24):=by omega
     simp only [execOp,Instr.buildSlice,Sem.run_bind,run_underlying hu,Result.andThen_ok,run_size e1,e3,hnle,if_false]
     by_cases hz0:len * k=0
     ·have hr0:((Array.range (len * k)).map (fun i=>z.cells[i % z.cells.size]!)) = #[]:=by rw [hz0];simp
      rw [hr0] at r1
      have hr1:(Array.map (fun (_:Nat)=>(default:Value)) (Array.range 0)) = #[]:=by simp
      simp [hz0,hr1,r1,newRow]
     ·simp only [hz0,if_false,Sem.run_bind,zeroValue,typeInfo,run_program,Result.andThen_ok,e1,e2,Sem.run_pure,Array.toList_map,r1]
      rfl
    ·cases hp
   ·cases hp
  ·cases hp
 ·rename_i t l c
  obtain ⟨d,rfl⟩:=Option.isSome_iff_exists.1 (hkind.2 rfl)
  split at hp
  ·rename_i ti kx x ky y ht hx hy hb hmb
   split at hp
   ·rename_i e k by_ zr hk
    split at hp
    ·rename_i r hm
     cases hp
     unfold pmake at hm
     split at hm
     ·rename_i hc
      obtain ⟨c1,rfl,c3,c4⟩:=hc
      cases hm
      obtain ⟨hu,i,z,e1,e2,e3,e4,e5,e6,e7,e8⟩:=slice_get (tab_at hT ht) hk
      subst e8
      have hzr:=zero_rows (Φ:=Φ) (μ:=μ) (len:=x.toNat) (z:=z.cells) e5 e6 (repL_pv0 _) e7 (by intro c hc;obtain ⟨v,-,rfl⟩:=List.mem_map.1 hc;exact pv0_own v)
      have h1:=h.newBox hidl hb hmb hzr.1 hzr.2.1 hzr.2.2 e
      have h2:=h1.put (d:=d) (hdst d rfl) (p:=.msl id 0 x.toNat k) (v:=.slice (some ⟨w.heap.size,0,none⟩) x.toNat x.toNat) (.msl id 0 x.toNat k _ _ (fun _=>⟨w.heap.size,by simp [upd_if],rfl⟩) (Nat.le_refl _) (by unfold maxLen;omega)) rfl
      refine ⟨_, .slice (some ⟨w.heap.size,0,none⟩) x.toNat x.toNat,w.alloc (.cells ((Array.range (x.toNat * k)).map (fun i=>z.cells[i % z.cells.size]!)) e),?_, .inl rfl,Φ,_,_,by rw [Array.toArray_toList] at h2;exact h2⟩
      have hxr:=h.ev l
      rw [hx] at hxr
      obtain ⟨hxv,-⟩:=hxr.val_inv
      have hyr:=h.ev c
      rw [hy] at hyr
      obtain ⟨hyv,-⟩:=hyr.val_inv
      have w1:IntKind.i64.wrap x=x:=IntWalk.i64_in x ⟨by omega,by omega⟩
      have n1:¬x < 0:=by omega
      have p48:(2:Int) ^ 48=281474976710656:=by decide
      have n2:¬((2:Int) ^ 48 < (i.bytes:Int) * x):=by rw [e4,p48];omega
      simp only [execOp,hxv,hyv,Instr.makeSlice,Sem.run_bind,run_underlying hu,Result.andThen_ok,asInt,asIntOf,typeInfo,run_program,e1,Sem.run_pure,w1]
      have n3:¬x > x:=by omega
      simp only [n1,decide_false,Bool.false_or,n2,gt_iff_lt,Bool.or_self,Int.lt_irrefl,if_false,Bool.false_eq_true,run_askRoom,Result.andThen_ok,run_size e1,e3,zeroValue,typeInfo,run_program,e1,e2]
      by_cases hz0:x.toNat * k=0
      ·have hr1:(Array.map (fun (_:Nat)=>(default:Value)) (Array.range 0)) = #[]:=by simp
       simp [hz0,newRow,run_size e1,e3]
       have hr2:(Array.map (fun i=>z.cells[i % z.cells.size]!) (Array.range 0)) = #[]:=by simp
       rw [hr1,hr2]
      ·simp only [hz0,if_false,Sem.run_bind,run_size e1,e3,zeroValue,typeInfo,run_program,Result.andThen_ok,e1,e2,Sem.run_pure,run_askRoom]
       rfl
     ·cases hm
    ·cases hp
   ·cases hp
  ·cases hp
 ·rename_i c
  obtain ⟨callee,args,argTypes⟩:=c
  simp only at hp
  split at hp
  ·split at hp
   ·rename_i s x t t' ea et
    obtain rfl:args = #[s,x]:=by rw [←Array.toArray_toList (xs:=args),ea]
    obtain rfl:argTypes = #[t,t']:=by rw [←Array.toArray_toList (xs:=argTypes),et]
    obtain ⟨d,rfl⟩:=Option.isSome_iff_exists.1 (hkind.2 rfl)
    split at hp
    ·rename_i htt
     subst htt
     split at hp
     ·rename_i ti ht
      split at hp
      ·rename_i e k by_ zr hk
       exact does_append h _ rfl (hdst d rfl) rfl (tab_at hT ht) hk hp
      ·cases hp
     ·cases hp
    ·cases hp
   ·cases hp
  ·exact other E hp
 ·rename_i hne1 hne2 hne3 hne4 hne5 hne6 hne7 hne8 hne9
  exact other E hp
end
section
open Go.RowKit
def PS.freeB (σ:PS) (i:Nat):Bool:=match σ.b i,σ.m i with
 |none,none=>true
 |_,_=>false
theorem PS.freeB_spec {σ:PS} {i:Nat} (h:σ.freeB i=true):σ.b i=none∧σ.m i=none:=by
 unfold PS.freeB at h
 split at h
 ·rename_i h1 h2;exact ⟨h1,h2⟩
 ·cases h
theorem PS.freeB_iff {σ:PS} {i:Nat} : σ.freeB i=true↔σ.b i=none∧σ.m i=none:=by
 refine ⟨PS.freeB_spec,fun ⟨h1,h2⟩=>?_⟩
 simp [PS.freeB,h1,h2]
def ownArg (σ:PS) (v:Operand):PV×Option Nat:=if (ownPV σ v).ownB then (ownPV σ v,disOf v) else (pev σ v,none)
def mput (ki:TyI) (es:List (Nat×PV×PV)) (clock:Nat) (kv:Value) (c:PV):Option PMap:=
 if keyOK ki.kind kv then match skT ki.kind with
  |some k=>match mfind k kv es 0 with
   |some (some j)=>match es[j]? with
    |some (s,_,_)=>some (.map (es.set j (s, .val kv,c)) clock)
    |none=>none
   |some none=>some (.map (es ++ [(clock, .val kv,c)]) (clock+1))
   |none=>none
  |none=>none
 else none
def mdel (ki:TyI) (es:List (Nat×PV×PV)) (clock:Nat) (kv:Value):Option PMap:=
 if keyOK ki.kind kv then match skT ki.kind with
  |some k=>match mfind k kv es 0 with
   |some (some j)=>some (.map (es.eraseIdx j) clock)
   |some none=>some (.map es clock)
   |none=>none
  |none=>none
 else none
def mapOf (m:Nat→Option PMap):PV→Option (Nat×List (Nat×PV×PV)×Nat)
 | .mref id=>match m id with
  |some (.map es clock)=>some (id,es,clock)
  |_=>none
 |_=>none
def pput (T:Tab) (σ:PS) (t:TypeId) (x k v:Operand):Option Eff:=
 match T.at t with
 |some ti=>match ti.kind with
  | .map kt _=>match T.at kt,mapOf σ.m (pev σ x),pev σ k with
   |some ki,some (id,es,clock), .val kv=>(mput ki es clock kv (ownArg σ v).1).map fun X=>⟨.tup [],[],(ownArg σ v).2,[(id,X)]⟩
   |_,_,_=>none
  |_=>none
 |none=>none
def pdel (T:Tab) (σ:PS) (t:TypeId) (x k:Operand):Option Eff:=
 match T.at t with
 |some ti=>match ti.kind with
  | .map kt _=>match T.at kt,mapOf σ.m (pev σ x),pev σ k with
   |some ki,some (id,es,clock), .val kv=>(mdel ki es clock kv).map fun X=>⟨.tup [],[],none,[(id,X)]⟩
   |_,_,_=>none
  |_=>none
 |none=>none
def ptake (T:Tab) (σ:PS) (t:TypeId) (x k:Operand):Option Eff:=
 match T.at t with
 |some ti=>match ti.kind with
  | .map kt _=>match T.at kt,mapOf σ.m (pev σ x),pev σ k with
   |some ki,some (id,es,clock), .val kv=>if keyOK ki.kind kv then match skT ki.kind with
    |some sk=>match mfind sk kv es 0 with
     |some (some j)=>match es[j]? with
      |some (s,kp, .sl n kk cs (some E))=>some ⟨.sl n kk cs (some E),[],none,[(id, .map (es.set j (s,kp, .sl n kk cs none)) clock)]⟩
      |_=>none
     |_=>none
    |none=>none
    else none
   |_,_,_=>none
  |_=>none
 |none=>none
def copySrc (b:Nat→Option (List PV)) (k:Nat):PV→Option (Nat×List PV)
 | .nilsl=>some (0,[])
 | .sl n k' cs _=>if k' = k∧cs.all PV.one=true then some (n,cs.map PV.bare) else none
 | .msl id o n k' => if k' = k then match b id with
  |some bs=>if o+n * k≤bs.length then some (n,((bs.drop o).take (n * k)).map PV.bare) else none
  |none=>none else none
 | .val (.string s)=>if k=1 then some (s.size,s.data.toList.map fun x=>.val (.int .u8 (x.toNat:Int))) else none
 |_=>none
def pcopy (b:Nat→Option (List PV)) (td:TD) (d s:PV):Option Eff:=
 match td,d with
 | .slice _ k _ _, .msl id o n k' => match b id,copySrc b k s with
  |some bs,some (n2,cs)=>if k' = k∧o+min n2 n * k≤bs.length then some ⟨.val (.int .i64 (min n2 n:Nat)),[(id,splF bs o (cs.take (min n2 n * k)))],none,[]⟩ else none
  |_,_=>none
 |_,_=>none
def pfull (td:TD) (x:PV) (lo hi mx:Option PV):Option PV:=
 match td,x with
 | .slice e k' _ _, .sl n k cs _=>if k' = k then match pbound n n hi,pbound n n mx with
  |some h,some m=>match pbound 0 h lo with
   |some l=>if hi.isSome∧mx.isSome∧m=h then some (.sl (h - l) k ((cs.drop (l * k)).take ((h - l) * k)) (some (e+1000000))) else none
   |none=>none
  |_,_=>none else none
 | .slice e k' _ _, .nilsl=>match pbound 0 0 hi,pbound 0 0 mx with
  |some _,some _=>match pbound 0 0 lo with
   |some _=>if hi.isSome∧mx.isSome then some (.sl 0 k' [] (some (e+1000000))) else none
   |none=>none
  |_,_=>none
 |_,_=>none
def strT:TypeId:=9
def pstrM (T:Tab) (b:Nat→Option (List PV)) (src dst:TD):PV→Option PV
 | .msl id o n k=>match src,dst with
  | .slice e _ _ _, .str=>match T.at e,b id with
   |some ei,some bs=>match ei.kind with
    | .int .u8=>if k=1∧o+n≤bs.length then (bytesOf (((bs.drop o).take n).map PV.bare)).map fun l=>.val (.string (strI l)) else none
    |_=>none
   |_,_=>none
  |_,_=>none
 |_=>none
def pmakeI:TD→PV→PV→Option PV
 | .slice e k by_ zr, .val (.int _ x), .val (.int _ y)=>if x=y∧0≤x∧(by_:Int) * x≤281474976710656∧x≤9223372036854775807∧e < 1000000 then some (.sl x.toNat k (List.replicate x.toNat zr).flatten (some e)) else none
 |_,_,_=>none
def strC (s:ByteArray):List PV:=s.data.toList.map fun b=>.val (.int .u8 (b.toNat:Int))
def pbytS (T:Tab) (src dst:TD):PV→Option PV
 | .val (.string s)=>match src,dst with
  | .str, .slice e _ _ _=>match T.at e with
   |some ei=>match ei.kind with
    | .int .u8=>if s.size≤1000000000 then some (.sl s.size 1 (strC s) none) else none
    |_=>none
   |none=>none
  |_,_=>none
 |_=>none
def parr (k:TD) (x:PV) (lo hi:Option PV):Option PV:=match k,x,lo,hi with
 | .arr n e k _, .ep cs 0,none,none=>if cs.length=n * k∧0 < n∧n≤1000000000 then some (.sl n k cs (some (e+1000000))) else none
 |_,_,_,_=>none
def presM (T:Tab) (hd:Bool) (id:Nat) (σ:PS):Op→Option Eff
 | .makeMap _ r=>match r,σ.b id,σ.m id with
  |none,none,none=>some ⟨.mref id,[],none,[(id, .map [] 0)]⟩
  |_,_,_=>none
 | .range t x=>match T.at t,mapOf σ.m (pev σ x),σ.b id,σ.m id with
  |some ti,some (mid,_,clock),none,none=>match ti.kind with
   | .map _ _=>some ⟨.ptr id 0,[],none,[(id, .iter mid clock [] clock)]⟩
   |_=>none
  |_,_,_,_=>none
 | .mapUpdate t x k v=>pput T σ t x k v
 | .insert t x k v=>pput T σ t x k v
 | .lookup t x k ok=>if hd∧ok=false then ptake T σ t x k else none
 | .slice t x lo hi mx=>match T.at t,mx with
  |some ti,some m=>(pfull ti.kind (pev σ x) (lo.map (pev σ)) (hi.map (pev σ)) (some (pev σ m))).map fun v=>⟨v,[],none,[]⟩
  |some ti,none=>(parr ti.kind (pev σ x) (lo.map (pev σ)) (hi.map (pev σ))).map fun v=>⟨v,[],none,[]⟩
  |_,_=>none
 | .convert s d x=>if Nat.beq d strT=true then match T.at s,T.at d with
  |some si,some di=>(pstrM T σ.b si.kind di.kind (pev σ x)).map fun v=>⟨v,[],none,[]⟩
  |_,_=>none else match T.at s,T.at d with
  |some si,some di=>(pbytS T si.kind di.kind (pev σ x)).map fun v=>⟨v,[],none,[]⟩
  |_,_=>none
 | .makeSlice t l c=>match T.at t with
  |some ti=>(pmakeI ti.kind (pev σ l) (pev σ c)).map fun v=>⟨v,[],none,[]⟩
  |none=>none
 | .call c=>match c.callee with
  | .builtin .delete=>match c.args.toList,c.argTypes.toList with
   | [x,k],t :: _=>pdel T σ t x k
   |_,_=>none
  | .builtin .copy=>match c.args.toList,c.argTypes.toList with
   | [d,s],t :: _=>match T.at t with
    |some ti=>pcopy σ.b ti.kind (pev σ d) (pev σ s)
    |none=>none
   |_,_=>none
  |_=>none
 |_=>none
end
section
open Go.RowKit
variable {Φ0:Ent} {W:World} {M:Nat} {Φ:Imm} {μ:Nat→Option Nat} {ω:Nat→Option Who} {σ:PS} {a:Act} {w:World} {P:Program} {T:Tab}
theorem mapOf_spec {m:Nat→Option PMap} {x:PV} {id clock:Nat} {es:List (Nat×PV×PV)} (h:mapOf m x=some (id,es,clock)):x = .mref id∧m id=some (.map es clock):=by
 unfold mapOf at h
 split at h
 ·split at h
  ·rename_i hm;cases h;exact ⟨rfl,hm⟩
  ·cases h
 ·cases h
theorem bytes_beq (a b:ByteArray):(a == b)=(a.data == b.data):=rfl
theorem veq_bits {k:SK} {a b:Value} (h:veq k a b=some true):Instr.sameBits 10000 b a=true:=by
 unfold veq at h
 split at h
 ·split at h
  ·rename_i hk;subst hk;simp at h;subst h;simp [Instr.sameBits]
  ·cases h
 ·simp only [Option.some.injEq,bytes_beq,beq_iff_eq] at h
  simp [Instr.sameBits,bytes_beq,h]
 ·simp at h;subst h;simp [Instr.sameBits]
 ·cases h
theorem run_setObj_setO {g:Nat} {es:Array MapEntry} {clock:Nat} (o:Obj) (hb:w.heap[g]? = some (.map es clock)):(setObj g o).run P w = .ok () (World.setO w g o):=by
 have h:(Go.setObj g o).run P w = .ok () { w with heap:=w.heap.setIfInBounds g o }:=by simp [Go.setObj,Sem.run,hb]
 exact h
theorem RelG.mput (h:RelG Φ0 W M Φ μ ω σ a w) {t kt et:TypeId} {ki:TyI} (hu:P.underlying t=some (.map kt et)) (hk:tyI P kt=some ki) {id clock g:Nat} {es:List (Nat×PV×PV)} (hm:σ.m id=some (.map es clock)) (hg:μ id=some g) {kv:Value} (hpl:plainV kv=true) {c:PV} {cv:Value} (hc:Rep Φ μ c cv) (hco:c.ownB=false) {X:PMap} (hX:mput ki es clock kv c=some X) :
  ∃w' ents' j st es' clock',(Instr.mapUpdate t (.map (some g)) kv cv).run P w = .ok () w'∧RelG Φ0 W M Φ μ ω { σ with m:=upd σ.m id (some X) } a w'∧X = .map es' clock'∧w'.heap[g]? = some (.map ents' clock')∧es'[j]? = some (st, .val kv,c)∧(∃en,ents'[j]? = some en∧en.val=cv) ∧
   (∀c',mput ki es clock kv c' = some (.map (es'.set j (st, .val kv,c')) clock')):=by
 obtain ⟨g',k1,k2,k3,k4,hst,ents,k5,k6,k7⟩:=h.map _ _ hm
 rw [hg] at k1;cases k1
 have hgl:=h.lt g _ k3
 have hE:EntsR Φ μ es ents:=⟨k6,fun j s k c hj=>by obtain ⟨e,e1,e2,e3,e4,-⟩:=k7 j s k c hj;exact ⟨e,e1,e2,e3,e4⟩⟩
 unfold Go.Proofs.YtmeekbjhpidcgaaDoor.mput at hX
 split at hX
 case isFalse=>cases hX
 rename_i hko
 split at hX
 case h_2=>cases hX
 rename_i sk hsk
 split at hX
 ·rename_i j hmf
  obtain ⟨h1,s,kk,c0,e,q1,q2,q3,q4,q5,q6,q7,q8⟩:=find_run (w:=w) hk hsk hko hE hmf
  rw [q1] at hX
  simp only [Option.some.injEq] at hX
  subst hX
  have hkey:Instr.keyThatStays e.key kv=pure kv:=by simp [Instr.keyThatStays,veq_bits q7]
  have hjl:j < es.length:=(List.getElem?_eq_some_iff.1 q1).1
  have hjl2:j < ents.size:=by rw [k6];exact hjl
  have hr:=h.setMap (X':=.map (es.set j (s, .val kv,c)) clock) hm hg (.map (ents.modify j fun e=>{ e with key:=kv,val:=cv }) clock) ⟨stamps_set hst q1,_,rfl,by simp [k6],fun q s' k' c' hq=>by
   rcases set_get hq with ⟨rfl,e9⟩|⟨hne,hq⟩
   ·cases e9
    refine ⟨{ e with key:=kv,val:=cv },by rw [Array.getElem?_modify,if_pos rfl,q2];rfl,q3, .val _ hpl,hc,fun n kk cs E e=>?_⟩
    rw [e] at hco;simp [PV.ownB] at hco
   ·obtain ⟨e',f1,f2,f3,f4,f5⟩:=k7 q s' k' c' hq
    exact ⟨e',by rw [Array.getElem?_modify,if_neg (Ne.symm hne)];exact f1,f2,f3,f4,f5⟩⟩
  refine ⟨_,_,j,s,_,_,?_,hr,rfl,setO_same w g _ hgl,by rw [List.getElem?_set,if_pos rfl,if_pos hjl],⟨{ e with key:=kv,val:=cv },by rw [Array.getElem?_modify,if_pos rfl,q2];rfl,rfl⟩,fun c' => ?_⟩
  ·simp only [Instr.mapUpdate,Sem.run_bind,run_underlying hu,Result.andThen_ok,(Go.run_getObj_map (P:=P) (w:=w) _ _ _ k5),h1,q8,q2,Option.map_some,Option.getD_some,hkey,Sem.run_pure,run_setObj_setO _ k5]
  ·unfold Go.Proofs.YtmeekbjhpidcgaaDoor.mput
   rw [if_pos hko,hsk]
   simp only [hmf,q1,List.set_set]
 ·rename_i hmf
  obtain ⟨h1,h2⟩:=find_run (w:=w) hk hsk hko hE hmf
  simp only [Option.some.injEq] at hX
  subst hX
  have hr:=h.setMap (X':=.map (es ++ [(clock, .val kv,c)]) (clock+1)) hm hg (.map (ents.push { key:=kv,val:=cv,born:=clock }) (clock+1)) ⟨⟨by
    rw [List.map_append,List.nodup_append]
    refine ⟨hst.1,by simp,fun x hx y hy=>?_⟩
    obtain ⟨e,he,rfl⟩:=List.mem_map.1 hx
    simp at hy
    have:=hst.2 e he
    omega,fun e he=>by
    rcases List.mem_append.1 he with he|he
    ·have:=hst.2 e he;omega
    ·simp at he;subst he;simp⟩,_,rfl,by simp [k6],fun q s' k' c' hq=>by
   by_cases hql:q < es.length
   ·rw [List.getElem?_append_left hql] at hq
    obtain ⟨e',f1,f2,f3,f4,f5⟩:=k7 q s' k' c' hq
    exact ⟨e',by rw [Array.getElem?_push,if_neg (by omega)];exact f1,f2,f3,f4,f5⟩
   ·rw [List.getElem?_append_right (by omega)] at hq
    have hq0:q - es.length=0:=by
     have:=(List.getElem?_eq_some_iff.1 hq).1
     simp at this;omega
    rw [hq0] at hq
    simp at hq
    obtain ⟨rfl,rfl,rfl⟩:=hq
    refine ⟨_,by rw [Array.getElem?_push,if_pos (by omega)],rfl, .val _ hpl,hc,fun n kk cs E e=>?_⟩
    rw [e] at hco;simp [PV.ownB] at hco⟩
  refine ⟨_,_,es.length,clock,_,_,?_,hr,rfl,setO_same w g _ hgl,by simp,⟨_,by rw [Array.getElem?_push,if_pos (by omega)],rfl⟩,fun c' => ?_⟩
  ·simp only [Instr.mapUpdate,Sem.run_bind,run_underlying hu,Result.andThen_ok,(Go.run_getObj_map (P:=P) (w:=w) _ _ _ k5),h1,h2,Sem.run_pure,run_setObj_setO _ k5]
  ·unfold Go.Proofs.YtmeekbjhpidcgaaDoor.mput
   rw [if_pos hko,hsk]
   simp only [hmf]
   congr 2
   rw [List.set_append_right _ _ (Nat.le_refl _)]
   simp
 ·cases hX
theorem RelG.mdel (h:RelG Φ0 W M Φ μ ω σ a w) {t t2 ty kt et:TypeId} {ki:TyI} (hu:P.underlying t=some (.map kt et)) (hk:tyI P kt=some ki) {id clock g:Nat} {es:List (Nat×PV×PV)} (hm:σ.m id=some (.map es clock)) (hg:μ id=some g) {kv:Value} {X:PMap} (hX:mdel ki es clock kv=some X) (tl:List TypeId) :
  ∃w',(Builtin.delete_ (t :: tl).toArray ty #[.map (some g),kv]).run P w = .ok (.tuple #[]) w'∧RelG Φ0 W M Φ μ ω { σ with m:=upd σ.m id (some X) } a w':=by
 obtain ⟨g',k1,k2,k3,k4,hst,ents,k5,k6,k7⟩:=h.map _ _ hm
 rw [hg] at k1;cases k1
 have hE:EntsR Φ μ es ents:=⟨k6,fun j s k c hj=>by obtain ⟨e,e1,e2,e3,e4,-⟩:=k7 j s k c hj;exact ⟨e,e1,e2,e3,e4⟩⟩
 unfold Go.Proofs.YtmeekbjhpidcgaaDoor.mdel at hX
 split at hX
 case isFalse=>cases hX
 rename_i hko
 split at hX
 case h_2=>cases hX
 rename_i sk hsk
 split at hX
 ·rename_i j hmf
  obtain ⟨h1,s,kk,c0,e,q1,q2,q3,q4,q5,q6,q7,q8⟩:=find_run (w:=w) hk hsk hko hE hmf
  simp only [Option.some.injEq] at hX
  subst hX
  have hjl:j < ents.size:=(Array.getElem?_eq_some_iff.1 q2).1
  have htl:(ents.eraseIdxIfInBounds j).toList=ents.toList.eraseIdx j:=by
   rw [Array.eraseIdxIfInBounds_eq,dif_pos hjl];simp
  have hr:=h.setMap (X':=.map (es.eraseIdx j) clock) hm hg (.map (ents.eraseIdxIfInBounds j) clock) ⟨⟨by
    have:=(List.eraseIdx_sublist es j).map (·.1)
    exact this.nodup hst.1,fun e he=>hst.2 e ((List.eraseIdx_sublist es j).subset he)⟩,_,rfl,by
    rw [←Array.length_toList,htl,List.length_eraseIdx,List.length_eraseIdx,Array.length_toList,k6],fun q s' k' c' hq=>by
   rw [List.getElem?_eraseIdx] at hq
   have hget:(ents.eraseIdxIfInBounds j)[q]? = if q < j then ents[q]? else ents[q+1]?:=by
    rw [←Array.getElem?_toList,htl,List.getElem?_eraseIdx];simp
   rw [hget]
   split at hq
   ·rename_i hlt;rw [if_pos hlt];exact k7 _ s' k' c' hq
   ·rename_i hlt;rw [if_neg hlt];exact k7 _ s' k' c' hq⟩
  refine ⟨_,?_,hr⟩
  simp only [Builtin.delete_,List.getElem?_toArray,List.getElem?_cons_zero,List.getElem?_cons_succ,Sem.run_bind,run_underlying hu,Result.andThen_ok,(Go.run_getObj_map (P:=P) (w:=w) _ _ _ k5),h1,q8,Sem.run_pure,run_setObj_setO _ k5]
 ·rename_i hmf
  obtain ⟨h1,h2⟩:=find_run (w:=w) hk hsk hko hE hmf
  simp only [Option.some.injEq] at hX
  subst hX
  have hr:=h.setMap (X':=.map es clock) hm hg (.map ents clock) ⟨hst,ents,rfl,k6,k7⟩
  refine ⟨_,?_,hr⟩
  simp only [Builtin.delete_,List.getElem?_toArray,List.getElem?_cons_zero,List.getElem?_cons_succ,Sem.run_bind,run_underlying hu,Result.andThen_ok,(Go.run_getObj_map (P:=P) (w:=w) _ _ _ k5),h1,h2,Sem.run_pure,run_setObj_setO _ k5]
 ·cases hX
theorem does_ret (o:Oper) {σ1:PS} {w' : World} {μ' : Nat→Option Nat} {ω' : Nat→Option Who} {Φ' : Imm} (h:RelG Φ0 W M Φ' μ' ω' σ1 a w') (hdst:∀d,o.dst=some d→d < M) {p:PV} {v:Value} (hr:(execOp a.eval o).run P w = .ok (.value v) w') (hp:Rep Φ' μ' p v) (ho:p.ownB=false) {E:Eff} (hE:E.v=p∧E.dis=none) (hb:σ1=σ.app none E) :
  Does P Φ0 W M a w o (σ.app o.dst E):=by
 refine ⟨_,v,w',hr, .inl rfl,Φ',μ',ω',?_⟩
 obtain ⟨v',bx,dis,mx⟩:=E
 obtain ⟨h1,h2⟩:=hE
 simp only at h1 h2
 subst h1 h2 hb
 cases hd:o.dst with
 |none=>exact h
 |some d=>exact h.put (hdst d hd) hp ho
theorem pput_sound (hT:T=tabOf P) (h:RelG Φ0 W M Φ μ ω σ a w) (o:Oper) {t:TypeId} {x k v:Operand} (hop:o.op = .mapUpdate t x k v∨o.op = .insert t x k v) (hd:o.dst=none) {E:Eff} (hp:pput T σ t x k v=some E):Does P Φ0 W M a w o (σ.app o.dst E):=by
 rw [hd]
 unfold pput at hp
 split at hp
 case h_2=>cases hp
 rename_i ti ht
 split at hp
 case h_2=>cases hp
 rename_i kt et hkd
 split at hp
 case h_2=>cases hp
 rename_i ki id es clock kv hki hmo hkv
 obtain ⟨X,hX,rfl⟩:=Option.map_eq_some_iff.1 hp
 obtain ⟨hx,hm⟩:=mapOf_spec hmo
 have hxr:=h.ev x
 rw [hx] at hxr
 obtain ⟨g,hg,hxv⟩:=hxr.mref_inv
 have hkr:=h.ev k
 rw [hkv] at hkr
 obtain ⟨hkk,hpl⟩:=hkr.val_inv
 have hu:=kind_map (tab_at hT ht) hkd
 have hrun:∀w',(Instr.mapUpdate t (.map (some g)) kv (a.eval v)).run P w = .ok () w'→(execOp a.eval o).run P w = .ok .skip w':=by
  intro w' hr
  rcases hop with hop|hop
  ·simp only [execOp,hop,Sem.run_bind,hxv,hkk,hr,Result.andThen_ok,Sem.run_pure]
  ·simp only [execOp,hop,Sem.run_bind,hxv,hkk,hr,Result.andThen_ok,Sem.run_pure]
 unfold ownArg at hX ⊢
 split at hX
 ·rename_i hown
  simp only [hown,if_true]
  obtain ⟨s,n,kk,cs,E,rfl,hs⟩:∃s n kk cs E,v = .tmp s∧σ.t s = .sl n kk cs (some E):=by
   cases v with
   |tmp s=>
    simp only [ownPV] at hown
    cases hσ:σ.t s with
    |sl n k cs own=>cases own with
     |none=>rw [hσ] at hown;simp [PV.ownB] at hown
     |some E=>exact ⟨s,n,k,cs,E,rfl,hσ⟩
    |_=>rw [hσ] at hown;simp [PV.ownB] at hown
   |const v=>have:=pvC_own v;simp only [ownPV,pev] at hown;rw [this] at hown;cases hown
   |global g=>have:=globPV_own g globTab;simp only [ownPV,pev] at hown;rw [this] at hown;cases hown
   |func f=>cases hblt:Nat.blt f 1000000<;>simp [ownPV,pev,PV.ownB,hblt] at hown
  simp only [ownPV,hs] at hX ⊢
  -- first without the mark
  have hsome:∃Y,Go.Proofs.YtmeekbjhpidcgaaDoor.mput ki es clock kv (.sl n kk cs none)=some Y:=by
   unfold Go.Proofs.YtmeekbjhpidcgaaDoor.mput at hX ⊢
   split at hX
   case isFalse=>cases hX
   rename_i hko
   rw [if_pos hko]
   split at hX
   case h_2=>cases hX
   rename_i sk hsk
   split at hX
   ·rename_i j hmf
    split at hX
    ·exact ⟨_,rfl⟩
    ·cases hX
   ·exact ⟨_,rfl⟩
   ·cases hX
  obtain ⟨Y,hY⟩:=hsome
  have hcr:Rep Φ μ (.sl n kk cs none) (a.eval (.tmp s)):=by have:=h.ev (.tmp s);simp only [pev,hs] at this;exact this
  obtain ⟨w',ents',j,st,es',clock',r1,r2,rfl,r4,r5,⟨en,r6,r7⟩,r8⟩:=h.mput hu (tab_at hT hki) hm hg hpl hcr rfl hY
  obtain ⟨ω',r9⟩:=r2.giveM (s:=s) (id:=id) (n:=n) (k:=kk) (j:=j) (st:=st) (clock:=clock') (g:=g) (cs:=cs) (E:=E) (es:=es') (kp:=.val kv) (ents:=ents') (en:=en) hs (by simp [upd_if]) r5 hg r4 r6 r7
  have e1:=r8 (.sl n kk cs (some E))
  rw [hX] at e1
  cases e1
  refine ⟨_,undef,w',hrun w' r1, .inr ⟨rfl,rfl⟩,Φ,μ,ω',?_⟩
  have e2:upd (upd σ.m id (some (.map es' clock'))) id (some (.map (es'.set j (st, .val kv, .sl n kk cs (some E))) clock'))=upd σ.m id (some (.map (es'.set j (st, .val kv, .sl n kk cs (some E))) clock')):=by
   funext q;simp only [upd_if];by_cases hq:q=id<;>simp [hq]
  simp only at r9
  rw [e2] at r9
  rw [hd]
  simp only [PS.app,disOf,hs,List.foldl_nil,List.foldl_cons] at r9 ⊢
  exact r9
 ·rename_i hown
  simp only [hown,if_false,Bool.false_eq_true]
  obtain ⟨w',ents',j,st,es',clock',r1,r2,-⟩:=h.mput hu (tab_at hT hki) hm hg hpl (h.ev v) (pev_own σ v) hX
  exact ⟨_,undef,w',hrun w' r1, .inr ⟨rfl,rfl⟩,Φ,μ,ω,by rw [hd];exact r2⟩
theorem pdel_sound (hT:T=tabOf P) (h:RelG Φ0 W M Φ μ ω σ a w) (o:Oper) (hdst:∀d,o.dst=some d→d < M) {t:TypeId} {tl:List TypeId} {x k:Operand} (hop:o.op = .call { callee:=.builtin .delete,args := #[x,k],argTypes:=(t :: tl).toArray }) {E:Eff} (hp:pdel T σ t x k=some E):Does P Φ0 W M a w o (σ.app o.dst E):=by
 unfold pdel at hp
 split at hp
 case h_2=>cases hp
 rename_i ti ht
 split at hp
 case h_2=>cases hp
 rename_i kt et hkd
 split at hp
 case h_2=>cases hp
 rename_i ki id es clock kv hki hmo hkv
 obtain ⟨X,hX,rfl⟩:=Option.map_eq_some_iff.1 hp
 obtain ⟨hx,hm⟩:=mapOf_spec hmo
 have hxr:=h.ev x
 rw [hx] at hxr
 obtain ⟨g,hg,hxv⟩:=hxr.mref_inv
 have hkr:=h.ev k
 rw [hkv] at hkr
 obtain ⟨hkk,hpl⟩:=hkr.val_inv
 have hu:=kind_map (tab_at hT ht) hkd
 obtain ⟨w',r1,r2⟩:=h.mdel (ty:=o.type) (t2:=t) hu (tab_at hT hki) hm hg hX tl
 refine does_ret (p:=.tup []) o r2 hdst (v:=.tuple #[]) ?_ (by have:=(RepL.nil (Φ:=Φ) (μ:=μ)).tup;exact this) rfl ⟨rfl,rfl⟩ rfl
 simp only [execOp,hop,resolve,invoke,builtin,Sem.run_bind,Sem.run_pure,Result.andThen_ok,List.map_toArray,List.map_cons,List.map_nil,hxv,hkk,r1]
theorem ptake_sound (hT:T=tabOf P) (h:RelG Φ0 W M Φ μ ω σ a w) (o:Oper) {d:Nat} (hd:o.dst=some d) (hM:d < M) {t:TypeId} {x k:Operand} (hop:o.op = .lookup t x k false) {E:Eff} (hp:ptake T σ t x k=some E):Does P Φ0 W M a w o (σ.app o.dst E):=by
 unfold ptake at hp
 split at hp
 case h_2=>cases hp
 rename_i ti ht
 split at hp
 case h_2=>cases hp
 rename_i kt et hkd
 split at hp
 case h_2=>cases hp
 rename_i ki id es clock kv hki hmo hkv
 split at hp
 case isFalse=>cases hp
 rename_i hko
 split at hp
 case h_2=>cases hp
 rename_i sk hsk
 split at hp
 case h_2=>cases hp
 rename_i j hmf
 split at hp
 case h_2=>cases hp
 rename_i s kp n kk cs E hj
 cases hp
 obtain ⟨hx,hm⟩:=mapOf_spec hmo
 have hxr:=h.ev x
 rw [hx] at hxr
 obtain ⟨g,hg,hxv⟩:=hxr.mref_inv
 have hkr:=h.ev k
 rw [hkv] at hkr
 obtain ⟨hkk,hpl⟩:=hkr.val_inv
 have hu:=kind_map (tab_at hT ht) hkd
 obtain ⟨g',k1,k2,k3,k4,hst,ents,k5,k6,k7⟩:=h.map _ _ hm
 rw [hg] at k1;cases k1
 have hE:EntsR Φ μ es ents:=⟨k6,fun j s k c hj=>by obtain ⟨e,e1,e2,e3,e4,-⟩:=k7 j s k c hj;exact ⟨e,e1,e2,e3,e4⟩⟩
 obtain ⟨h1,s',kk',c',e,q1,q2,q3,q4,q5,q6,q7,q8⟩:=find_run (w:=w) (tab_at hT hki) hsk hko hE hmf
 obtain ⟨ω',r1⟩:=h.fetchM hM hm hj hg k5 q2
 refine ⟨_,e.val,w,?_, .inl rfl,Φ,μ,ω',?_⟩
 ·simp only [execOp,hop,Instr.lookup,Sem.run_bind,run_underlying hu,Result.andThen_ok,Sem.run_pure,hxv,hkk,(Go.run_getObj_map (P:=P) (w:=w) _ _ _ k5),h1,q8]
  rfl
 ·rw [hd]
  exact r1
theorem copySrc_sound (h:RelG Φ0 W M Φ μ ω σ a w) {k:Nat} {x:PV} {v:Value} (hx:Rep Φ μ x v) {n:Nat} {cs:List PV} (hs:copySrc σ.b k x=some (n,cs)) {e:TypeId} {i:TypeInfo} (hi:P.info? e=some i) (hk:i.size=k) (m:Nat) (hm:m≤n) :
  (Builtin.lenOf v).run P w = .ok n w∧∃us:List Value,(do Builtin.firstCells (←Go.sizeOf e) m v:Sem (Array Value)).run P w = .ok us.toArray w∧CellsR Φ μ (cs.take (m * k)) us∧cs.length=n * k:=by
 have hsz:∀w,(Go.sizeOf e).run P w = .ok k w:=fun w=>by rw [run_size hi,hk]
 unfold copySrc at hs
 split at hs
 ·cases hs
  obtain rfl:=hx.nilsl_inv
  refine ⟨rfl,[],by simp [Builtin.firstCells,hsz],by simp [CellsR,RepL.nil],by simp⟩
 ·rename_i n' k' cs' own
  split at hs
  case isFalse=>cases hs
  rename_i hc
  obtain ⟨rfl,hone⟩:=hc
  cases hs
  obtain ⟨ad,b,off,cap,us,rfl,c1,c2,c3,c4,c5,c6⟩:=hx.sl_inv
  have hlen:m * k'≤cs'.length:=by rw [c3];exact Nat.mul_le_mul_right _ hm
  have hrl:=repL_of_us cs' us c6
  refine ⟨rfl,((List.range cs'.length).map us).take (m * k'),?_,⟨?_,?_,?_⟩,by simpa using c3⟩
  ·rcases Nat.eq_zero_or_pos n with h0|h0
   ·have hm0:m=0:=by omega
    subst hm0
    cases ad with
    |none=>simp [Builtin.firstCells,hsz]
    |some ad=>simp [Builtin.firstCells,hsz,loadCells,loadCellsFrom]
   ·obtain rfl:=c4 h0
    simp only [Sem.run_bind,hsz,Result.andThen_ok,Builtin.firstCells]
    have:=run_loadCells_list (P:=P) (w:=w) ⟨b,off,none⟩ (((List.range cs'.length).map us).take (m * k')) (by
     intro j u hj
     rw [List.getElem?_take] at hj
     split at hj
     ·have hjl:j < cs'.length:=by omega
      simp [hjl] at hj
      subst hj
      rw [Addr.add_lit]
      exact h.imm _ _ _ (c5 j hjl)
     ·cases hj)
    rw [List.length_take,List.length_map,List.length_range,Nat.min_eq_left hlen] at this
    exact this
  ·refine ⟨by simp,fun j c u h1 h2=>?_⟩
   rw [List.getElem?_take] at h1 h2
   split at h1
   ·rename_i hj
    rw [if_pos hj] at h2
    rw [List.getElem?_map] at h1
    obtain ⟨c',hc',rfl⟩:=Option.map_eq_some_iff.1 h1
    exact (hrl.2 j c' u hc' h2).bare
   ·cases h1
  ·intro u hu
   exact repL_one hrl hone u (List.mem_of_mem_take hu)
  ·intro c hc
   obtain ⟨c',-,rfl⟩:=List.mem_map.1 (List.mem_of_mem_take hc)
   exact PV.bare_own _
 ·rename_i id o' n' k'
  split at hs
  case isFalse=>cases hs
  rename_i hkk
  subst hkk
  split at hs
  case h_2=>cases hs
  rename_i bs hb
  split at hs
  case isFalse=>cases hs
  rename_i hle
  cases hs
  obtain ⟨ad,cap,rfl,c1,c2,c4⟩:=hx.msl_inv
  obtain ⟨g,cur,Ty,b1,b2,b3,b4,b5,b6,b7⟩:=h.box id bs hb
  have hmk:m * k'≤n * k':=Nat.mul_le_mul_right _ hm
  have hget:∀j,j < n * k'→∃c u,bs[o' + j]? = some c∧cur[o' + j]? = some u∧u.oneCell' = true∧Rep Φ μ c u:=by
   intro j hj
   have hjl:o' + j < bs.length:=by omega
   obtain ⟨u,r1,r2,r3,-⟩:=b7 (o' + j) bs[o' + j] (by simp [hjl])
   exact ⟨_,u,by simp [hjl],r1,r2,r3⟩
  refine ⟨rfl,((cur.toList.drop o').take (m * k')),?_,⟨?_,?_,?_⟩,by simp;omega⟩
  ·rcases Nat.eq_zero_or_pos n with h0|h0
   ·have hm0:m=0:=by omega
    subst hm0
    cases ad with
    |none=>simp [Builtin.firstCells,hsz]
    |some ad=>simp [Builtin.firstCells,hsz,loadCells,loadCellsFrom]
   ·obtain ⟨g',hg',rfl⟩:=c4 h0
    rw [b1] at hg'; cases hg'
    simp only [Sem.run_bind,hsz,Result.andThen_ok,Builtin.firstCells]
    have:=run_loadCells_list (P:=P) (w:=w) ⟨g,o',none⟩ ((cur.toList.drop o').take (m * k')) (by
     intro j u hj
     rw [List.getElem?_take] at hj
     split at hj
     ·rw [List.getElem?_drop] at hj
      rw [Addr.add_lit]
      simp only [World.cell?,b2]
      simpa using hj
     ·cases hj)
    have hl:((cur.toList.drop o').take (m * k')).length=m * k':=by simp;omega
    rw [hl] at this
    exact this
  ·refine ⟨by simp;omega,fun j c u h1 h2=>?_⟩
   rw [List.getElem?_take] at h1 h2
   split at h1
   ·rename_i hj
    rw [if_pos hj,List.getElem?_drop] at h2
    rw [List.getElem?_map] at h1
    obtain ⟨c',hc',rfl⟩:=Option.map_eq_some_iff.1 h1
    rw [List.getElem?_take,if_pos (by omega),List.getElem?_drop] at hc'
    obtain ⟨c2,u2,r1,r2,r3,r4⟩:=hget j (by omega)
    rw [hc'] at r1;cases r1
    have:cur[o' + j]? = some u:=by simpa using h2
    rw [r2] at this;cases this
    exact r4.bare
   ·cases h1
  ·intro u hu
   obtain ⟨j,hj⟩:=List.getElem?_of_mem hu
   rw [List.getElem?_take] at hj
   split at hj
   ·rename_i hjl
    rw [List.getElem?_drop] at hj
    obtain ⟨c2,u2,r1,r2,r3,r4⟩:=hget j (by omega)
    have:cur[o' + j]? = some u:=by simpa using hj
    rw [r2] at this;cases this
    exact r3
   ·cases hj
  ·intro c hc
   obtain ⟨c',-,rfl⟩:=List.mem_map.1 (List.mem_of_mem_take hc)
   exact PV.bare_own _
 ·rename_i s
  split at hs
  case isFalse=>cases hs
  rename_i hkk
  subst hkk
  cases hs
  obtain ⟨rfl,-⟩:=hx.val_inv
  have hsl:s.data.toList.length=s.size:=by cases s;exact Array.length_toList
  refine ⟨rfl,(s.data.toList.take m).map fun x=>.int .u8 (x.toNat:Int),?_,⟨?_,?_,?_⟩,by rw [List.length_map,hsl,Nat.mul_one]⟩
  ·simp only [Sem.run_bind,hsz,Result.andThen_ok,Builtin.firstCells,Sem.run_pure]
   congr 1
   apply Array.ext'
   simp
  ·refine ⟨by simp,fun j c u h1 h2=>?_⟩
   rw [List.getElem?_take] at h1
   split at h1
   ·rename_i hj
    rw [List.getElem?_map] at h1 h2
    obtain ⟨x,hx,rfl⟩:=Option.map_eq_some_iff.1 h1
    rw [List.getElem?_take,if_pos (by omega),hx] at h2
    simp at h2
    subst h2
    exact .val _ rfl
   ·cases h1
  ·intro u hu
   obtain ⟨x,-,rfl⟩:=List.mem_map.1 hu
   rfl
  ·intro c hc
   obtain ⟨x,-,rfl⟩:=List.mem_map.1 (List.mem_of_mem_take hc)
   rfl
 ·cases hs
theorem pcopy_sound (hT:T=tabOf P) (h:RelG Φ0 W M Φ μ ω σ a w) (o:Oper) (hdst:∀d,o.dst=some d→d < M) {t:TypeId} {tl:List TypeId} {x y:Operand} (hop:o.op = .call { callee:=.builtin .copy,args := #[x,y],argTypes:=(t :: tl).toArray }) {ti:TyI} (ht:T.at t=some ti) {E:Eff} (hp:pcopy σ.b ti.kind (pev σ x) (pev σ y)=some E):Does P Φ0 W M a w o (σ.app o.dst E):=by
 unfold pcopy at hp
 split at hp
 case h_2=>cases hp
 rename_i e k by_ zr id off n k' hkd hx
 split at hp
 case h_2=>cases hp
 rename_i bs n2 cs hb hs
 split at hp
 case isFalse=>cases hp
 rename_i hc
 obtain ⟨rfl,hle⟩:=hc
 cases hp
 obtain ⟨hu,i,z,e1,e2,e3,e4,e5,e6,-,-⟩:=slice_get (tab_at hT ht) hkd
 have hxr:=h.ev x
 rw [hx] at hxr
 obtain ⟨ad,cap,hxv,c1,c2,c4⟩:=hxr.msl_inv
 obtain ⟨r1,us,r2,r3,r4⟩:=copySrc_sound (P:=P) h (h.ev y) hs e1 e3 (min n2 n) (Nat.min_le_left _ _)
 have hul:us.length=min n2 n * k':=by
  rw [r3.1.1,List.length_take,r4]
  exact Nat.min_eq_left (Nat.mul_le_mul_right _ (Nat.min_le_left _ _))
 have hcl:(cs.take (min n2 n * k')).length=min n2 n * k':=by rw [←r3.1.1,hul]
 have hr2:∀{α:Type} (F:Array Value→Sem α),(do let c ←Builtin.firstCells (←Go.sizeOf e) (min n2 n) (a.eval y);F c:Sem α).run P w=(F us.toArray).run P w:=by
  intro α F
  have:=r2
  simp only [Sem.run_bind] at this ⊢
  rw [run_size e1] at this ⊢
  simp only [Result.andThen_ok] at this ⊢
  rw [this]
  rfl
 have hrun:∀w',(match ad with|some a=>storeCells a us|none=>pure ():Sem Unit).run P w = .ok () w'→(execOp a.eval o).run P w = .ok (.value (.int .i64 (min n2 n:Nat))) w':=by
  intro w' hst
  have hmin:Nat.min n2 n=min n2 n:=rfl
  simp only [execOp,hop,resolve,invoke,builtin,Sem.run_bind,Sem.run_pure,Result.andThen_ok,List.map_toArray,List.map_cons,List.map_nil,Builtin.copy_,List.getElem?_toArray,List.getElem?_cons_zero,List.getElem?_cons_succ,run_underlying hu,hxv,r1,hmin]
  have h2:=r2
  simp only [Sem.run_bind,run_size e1,Result.andThen_ok] at h2
  simp only [run_size e1,Result.andThen_ok,h2]
  cases ad with
  |none=>simp only [Sem.run_pure] at hst;cases hst;simp [goInt]
  |some ad=>simp only at hst;simp only [Sem.run_bind,hst,Result.andThen_ok,Sem.run_pure,goInt]
 rcases Nat.eq_zero_or_pos (min n2 n) with h0|h0
 ·have hus:us = []:=List.eq_nil_of_length_eq_zero (by rw [hul,h0,Nat.zero_mul])
  have hcs:cs.take (min n2 n * k') = []:=by rw [h0];simp
  subst hus
  rw [hcs]
  have hbb:upd σ.b id (some (splF bs off []))=σ.b:=by
   funext q
   simp only [upd_if]
   split
   ·rename_i e;subst e
    rw [splF_eq _ _ _ (by simp;rw [h0] at hle;omega)]
    simp [splice,hb]
   ·rfl
  refine does_ret (p:=.val (.int .i64 (min n2 n:Nat))) o h hdst (hrun w ?_) (.val _ rfl) rfl ⟨rfl,rfl⟩ ?_
  ·cases ad<;>simp [storeCells]
  ·simp only [PS.app,List.foldl_cons,List.foldl_nil,hbb]
 ·obtain ⟨g,hg,rfl⟩:=c4 (by omega)
  obtain ⟨w',q1,q2⟩:=h.store (P:=P) hb r3 (off:=off) (by rw [hcl];exact hle) hg
  rw [←splF_eq bs off _ (by rw [hcl];exact hle)] at q2
  exact does_ret (p:=.val (.int .i64 (min n2 n:Nat))) o q2 hdst (hrun w' q1) (.val _ rfl) rfl ⟨rfl,rfl⟩ rfl
theorem RelG.putFull (h:RelG Φ0 W M Φ μ ω σ a w) {d:Nat} (hd:d < M) {n k:Nat} {cs:List PV} {E:TypeId} {ad:Option Addr} (hE:1000000≤E) (hp:Rep Φ μ (.sl n k cs (some E)) (.slice ad n n)):RelG Φ0 W M Φ μ ω (σ.put d (.sl n k cs (some E))) (a.put (some d) (.slice ad n n)) w:=by
 have hd' : d < a.tmps.size:=by rw [h.size];exact hd
 refine { h with defers:=h.defers,size:=by simp [Act.put,h.size],tmps:=fun t=>?_,own:=fun t n' k' cs' E' e=>?_ }
 ·rw [getD_put _ _ _ _ hd']
  by_cases ht:t=d
  ·simp only [PS.put,upd_if,if_pos ht];exact hp
  ·simp only [PS.put,upd_if,if_neg ht];exact h.tmps t
 ·rw [getD_put _ _ _ _ hd']
  by_cases ht:t=d
  ·simp only [PS.put,upd_if,if_pos ht] at e ⊢
   cases e
   exact .inr (.inr ⟨hE,ad,rfl⟩)
  ·simp only [PS.put,upd_if,if_neg ht] at e ⊢
   exact h.own t n' k' cs' E' e
theorem bound1 {m l:Nat} {x:Option PV} {vx:Option Value} (hx:RepO Φ μ x vx) {d:Nat} (hp:pbound d m x=some l) (m' : Nat) (hm:m≤m') (code:BoundsCode):(match vx with|some v=>Instr.sliceBound v m' code|none=>pure d:Sem Nat).run P w = .ok l w∧(x.isSome=true→l≤m):=by
 cases x with
 |none=>
  cases vx with
  |none=>simp [pbound] at hp;subst hp;simp
  |some v=>exact hx.elim
 |some p=>
  cases vx with
  |none=>exact hx.elim
  |some v=>have:=bound_sound (P:=P) (w:=w) hx hp m' hm code;exact ⟨this.1,fun _=>this.2⟩
theorem pfull_sound {t:TypeId} {ti:TyI} (ht:tyI P t=some ti) (h:RelG Φ0 W M Φ μ ω σ a w) {q:PV} {v:Value} (hq:Rep Φ μ q v) {x y z:Option PV} {vx vy vz:Option Value} (hx:RepO Φ μ x vx) (hy:RepO Φ μ y vy) (hz:RepO Φ μ z vz) {p:PV} (hp:pfull ti.kind q x y z=some p) :
  ∃ad n k cs E,p = .sl n k cs (some E)∧1000000≤E∧(Instr.sliceAt t v vx vy vz).run P w = .ok (.slice ad n n) w∧Rep Φ μ p (.slice ad n n):=by
 -- the bounds
 have bounds:∀(n cap l hh:Nat),n≤cap→pbound n n y=some hh→pbound n n z=some hh→pbound 0 hh x=some l→y.isSome=true→z.isSome=true→(Instr.sliceBounds true n cap vx vy vz).run P w = .ok (l,hh,hh) w∧l≤hh∧hh≤n:=by
  intro n cap l hh hn h1 h2 h3 sy sz
  obtain ⟨y,rfl⟩:=Option.isSome_iff_exists.1 sy
  obtain ⟨z,rfl⟩:=Option.isSome_iff_exists.1 sz
  cases vy with
  |none=>exact hy.elim
  |some vy=>
   cases vz with
   |none=>exact hz.elim
   |some vz=>
    have a1:=(bound_sound (P:=P) (w:=w) (u:=vz) hz h2 cap hn .slice3Acap)
    have hyy:pbound hh hh (some y)=some hh:=by
     unfold pbound at h1 ⊢
     split at h1
     ·rename_i e;cases e
     ·rename_i k i e
      cases e
      split at h1
      ·rename_i hc
       cases h1
       have:0≤i∧i≤((i.toNat:Nat):Int):=⟨hc.1,by omega⟩
       simp only [this,and_self,if_true]
      ·cases h1
     ·cases h1
    have a2:=(bound_sound (P:=P) (w:=w) (u:=vy) hy hyy hh (Nat.le_refl _) .slice3B)
    have a3:=bound1 (P:=P) (w:=w) hx h3 hh (Nat.le_refl _) .slice3C
    have hlh:l≤hh:=by
     cases x with
     |none=>simp [pbound] at h3;omega
     |some x=>exact a3.2 rfl
    refine ⟨?_,hlh,a1.2⟩
    have b3:=a3.1
    cases vx with
    |none=>
     simp only [Sem.run_pure] at b3
     cases b3
     simp [Instr.sliceBounds,a1.1,a2.1]
    |some vx=>
     simp only at b3
     simp [Instr.sliceBounds,a1.1,a2.1,b3]
 unfold pfull at hp
 split at hp
 ·rename_i e k' by_ zr n k cs own hkd
  split at hp
  case isFalse=>cases hp
  rename_i hkk
  subst hkk
  split at hp
  case h_2=>cases hp
  rename_i hh m hhy hmz
  split at hp
  case h_2=>cases hp
  rename_i l hl
  split at hp
  case isFalse=>cases hp
  rename_i hc
  obtain ⟨sy,sz,rfl⟩:=hc
  cases hp
  obtain ⟨hu,i',z',e1,e2,e3,e4,e5,e6,-,-⟩:=slice_get ht hkd
  obtain ⟨ad,b,off,cap,us,rfl,c1,c2,c3,c4,c5,c6⟩:=hq.sl_inv
  obtain ⟨r1,r2,r3⟩:=bounds n cap l m c1 hhy hmz hl sy sz
  refine ⟨if m=l then ad else ad.map (·.add (l * k')),m - l,k',_,e+1000000,rfl,Nat.le_add_left _ _,?_,?_⟩
  ·simp only [Instr.sliceAt,Sem.run_bind,run_underlying hu,Result.andThen_ok,Instr.slice,r1,run_size e1,e3,Sem.run_pure]
  ·by_cases hz0:m - l=0
   ·have:(cs.drop (l * k')).take ((m - l) * k') = []:=by rw [hz0];simp
    rw [this,hz0]
    exact .sl0 _ _ _ _ (by omega)
   ·obtain rfl:=c4 (by omega)
    rw [if_neg (by omega)]
    simp only [Option.map_some,Addr.add_lit]
    have hbig:l * k' + (m - l) * k'≤n * k':=by rw [←Nat.add_mul];exact Nat.mul_le_mul_right _ (by omega)
    refine .sl _ _ _ _ b (off+l * k') _ (fun j=>us (l * k' + j)) ?_ (by omega) (by omega) ?_ ?_
    ·rw [List.length_take,List.length_drop,c3];omega
    ·intro j hj
     rw [List.length_take,List.length_drop,c3] at hj
     rw [Nat.add_assoc]
     exact c5 _ (by omega)
    ·intro j c hc
     rw [List.getElem?_take] at hc
     split at hc
     ·rw [List.getElem?_drop] at hc;exact c6 _ _ hc
     ·cases hc
 ·rename_i e k' by_ zr hkd
  split at hp
  case h_2=>cases hp
  rename_i hh m hhy hmz
  split at hp
  case h_2=>cases hp
  rename_i l hl
  split at hp
  case isFalse=>cases hp
  rename_i hc
  cases hp
  obtain ⟨hu,i',z',e1,e2,e3,e4,e5,e6,-,-⟩:=slice_get ht hkd
  obtain rfl:=hq.nilsl_inv
  have h0:∀{y:Option PV} {l:Nat},pbound 0 0 y=some l→l=0:=by
   intro y l hy
   unfold pbound at hy
   split at hy
   ·cases hy;rfl
   ·split at hy
    ·rename_i hc;cases hy;omega
    ·cases hy
   ·cases hy
  obtain rfl:=h0 hhy
  obtain rfl:=h0 hmz
  obtain rfl:=h0 hl
  obtain ⟨r1,r2,r3⟩:=bounds 0 0 0 0 (Nat.le_refl _) hhy hmz hl hc.1 hc.2
  refine ⟨none,0,k',[],e+1000000,rfl,Nat.le_add_left _ _,?_, .sl0 _ _ _ _ (by unfold maxLen;omega)⟩
  simp only [Instr.sliceAt,Sem.run_bind,run_underlying hu,Result.andThen_ok,Instr.slice,r1,run_size e1,e3,Sem.run_pure]
  rfl
 ·cases hp
theorem pstrM_sound (hT:T=tabOf P) (h:RelG Φ0 W M Φ μ ω σ a w) {ts td:TypeId} {si di:TyI} (hs:T.at ts=some si) (hd:T.at td=some di) {x:Operand} {v:PV} (hv:pstrM T σ.b si.kind di.kind (pev σ x)=some v) :
  ∃l,v = .val (.string (strI l))∧(convert ts td (a.eval x)).run P w = .ok (.string (strI l)) w:=by
 unfold pstrM at hv
 split at hv
 case h_2=>cases hv
 rename_i id' o' n k hx
 split at hv
 case h_2=>cases hv
 rename_i e kk by_ zr hk1 hk2
 split at hv
 case h_2=>cases hv
 rename_i ei bs he hb
 split at hv
 case h_2=>cases hv
 rename_i hke
 split at hv
 case isFalse=>cases hv
 rename_i hc
 obtain ⟨rfl,hle⟩:=hc
 obtain ⟨l,hl,rfl⟩:=Option.map_eq_some_iff.1 hv
 refine ⟨l,rfl,?_⟩
 have hxr:=h.ev x
 rw [hx] at hxr
 obtain ⟨ad,cap,hxv,c1,c2,c4⟩:=hxr.msl_inv
 obtain ⟨g,cur,Ty,b1,b2,b3,b4,b5,b6,b7⟩:=h.box id' bs hb
 obtain ⟨hu,-⟩:=slice_get (tab_at hT hs) hk1
 have hd2:=kind_str (tab_at hT hd) hk2
 have he':=kind_int (tab_at hT he) hke
 have hcs:=bytesOf_get _ _ hl
 have hll:l.length=n:=by
  have:=congrArg List.length hcs
  simp only [List.length_map,List.length_take,List.length_drop] at this
  omega
 rw [hxv,run_convert_bytes_string w ts td e ad n cap hu he' hd2]
 by_cases hn:0 < n
 ·obtain ⟨g',hg',rfl⟩:=c4 hn
  rw [b1] at hg'; cases hg'
  rw [run_bytesToString w ⟨g,o',none⟩ n cap l (by
   have:=run_loadCells_list (P:=P) (w:=w) ⟨g,o',none⟩ (l.map (Value.int .u8)) (by
    intro j u hj
    rw [List.getElem?_map] at hj
    obtain ⟨z,hz,rfl⟩:=Option.map_eq_some_iff.1 hj
    have hjl:j < n:=by have:=(List.getElem?_eq_some_iff.1 hz).1;omega
    have hcj:(((bs.drop o').take n).map PV.bare)[j]? = some (.val (.int .u8 z)):=by rw [hcs,List.getElem?_map,hz];rfl
    rw [List.getElem?_map] at hcj
    obtain ⟨c,hc,hcb⟩:=Option.map_eq_some_iff.1 hcj
    rw [List.getElem?_take,if_pos hjl,List.getElem?_drop] at hc
    obtain ⟨u,r1,r2,r3,-⟩:=b7 (o' + j) c hc
    have r4:=r3.bare
    rw [hcb] at r4
    obtain ⟨rfl,-⟩:=r4.val_inv
    rw [Addr.add_lit]
    simp only [World.cell?,b2]
    simpa using r1)
   rw [List.length_map,hll] at this
   first|exact this|simpa using this)]
  rfl
 ·have hn0:n=0:=by omega
  have hb0:l = []:=List.eq_nil_of_length_eq_zero (by omega)
  subst hb0
  cases ad with
  |none=>subst hn0;simp [Conv.bytesToString,strI]
  |some ad=>
   rw [run_bytesToString w ad n cap [] (by subst hn0;first|rfl|simp [loadCells,loadCellsFrom])]
   rfl
theorem mkI_does (hT:T=tabOf P) (h:RelG Φ0 W M Φ μ ω σ a w) (o:Oper) {d:Nat} (hd:o.dst=some d) (hM:d < M) {t:TypeId} {l c:Operand} (hop:o.op = .makeSlice t l c) {ti:TyI} (ht:T.at t=some ti) {e k by_:Nat} {zr out:List PV} (hk:ti.kind = .slice e k by_ zr) {kx ky:IntKind} {x:Int} (hx:pev σ l = .val (.int kx x)) (hy:pev σ c = .val (.int ky x)) (hc:0≤x∧(by_:Int) * x≤281474976710656∧x≤9223372036854775807) (he:e < 1000000) (hout:(List.replicate x.toNat zr).flatten=out) :
  Does P Φ0 W M a w o (σ.put d (.sl x.toNat k out (some e))):=by
 obtain ⟨c1,c3,c4⟩:=hc
 obtain ⟨hu,i,z,e1,e2,e3,e4,e5,e6,e7,e8⟩:=slice_get (tab_at hT ht) hk
 subst e8
 have hzr:=zero_rows (Φ:=Φ) (μ:=μ) (len:=x.toNat) (z:=z.cells) e5 e6 (repL_pv0 _) e7 (by intro c hc;obtain ⟨v,-,rfl⟩:=List.mem_map.1 hc;exact pv0_own v)
 rw [hout] at hzr
 have hcs:((Array.range (x.toNat * k)).map (fun i=>z.cells[i % z.cells.size]!)).size=x.toNat * k:=by simp
 have hmax:x.toNat≤maxLen:=by unfold maxLen;omega
 obtain ⟨Φ',ω',h2,-⟩:=h.newOwn (d:=d) hM (N:=x.toNat) (k:=k) (cap:=x.toNat) (L:=out) (cur:=(Array.range (x.toNat * k)).map (fun i=>z.cells[i % z.cells.size]!)) (e:=e) (by rw [←hzr.1.1];simp) (by rw [List.take_of_length_le (by simp)];exact hzr.1) (Nat.le_refl _) hmax hcs he
 refine ⟨_, .slice (some ⟨w.heap.size,0,none⟩) x.toNat x.toNat,w.alloc (.cells ((Array.range (x.toNat * k)).map (fun i=>z.cells[i % z.cells.size]!)) e),?_, .inl rfl,Φ',μ,ω',by rw [hd];exact h2⟩
 have hxr:=h.ev l
 rw [hx] at hxr
 obtain ⟨hxv,-⟩:=hxr.val_inv
 have hyr:=h.ev c
 rw [hy] at hyr
 obtain ⟨hyv,-⟩:=hyr.val_inv
 have w1:IntKind.i64.wrap x=x:=IntWalk.i64_in x ⟨by omega,by omega⟩
 have n1:¬x < 0:=by omega
 have p48:(2:Int) ^ 48=281474976710656:=by decide
 have n2:¬((2:Int) ^ 48 < (i.bytes:Int) * x):=by rw [e4,p48];omega
 simp only [execOp,hop,hxv,hyv,Instr.makeSlice,Sem.run_bind,run_underlying hu,Result.andThen_ok,asInt,asIntOf,typeInfo,run_program,e1,Sem.run_pure,w1]
 have n3:¬x > x:=by omega
 simp only [n1,decide_false,Bool.false_or,n2,gt_iff_lt,Bool.or_self,Int.lt_irrefl,if_false,Bool.false_eq_true,run_askRoom,Result.andThen_ok,run_size e1,e3,zeroValue,typeInfo,run_program,e1,e2]
 by_cases hz0:x.toNat * k=0
 ·have hr1:(Array.map (fun (_:Nat)=>(default:Value)) (Array.range 0)) = #[]:=by simp
  simp [hz0,newRow,run_size e1,e3]
  have hr2:(Array.map (fun i=>z.cells[i % z.cells.size]!) (Array.range 0)) = #[]:=by simp
  rw [hr1,hr2]
 ·simp only [hz0,if_false,Sem.run_bind,run_size e1,e3,zeroValue,typeInfo,run_program,Result.andThen_ok,e1,e2,Sem.run_pure,run_askRoom]
  rfl
theorem RelG.newRow (h:RelG Φ0 W M Φ μ ω σ a w) (cur:Array Value) (Ty:TypeId) (fr:Nat×Nat):RelG Φ0 W M (immRow Φ w.heap.size cur) μ ω σ a (w.drew.alloc (.cells cur Ty fr)):=by
 have hd:=h.drew
 refine hd.grow (hd.below.alloc _) (fun b o u e=>?_) (fun b o hb=>?_) (fun b o u e=>?_) (fun g p e=>?_) (by simp)
 ·unfold immRow at e
  split at e
  ·rename_i hb
   subst hb
   have hn:(w.drew.alloc (.cells cur Ty fr)).heap[w.heap.size]? = some (.cells cur Ty fr):=by
    show (w.heap.push (.cells cur Ty fr))[w.heap.size]? = _
    simp
   simp only [World.cell?,hn]
   exact e
  ·have h1:=hd.imm b o u e
   have hlt:=World.block_lt_of_cell? _ _ h1
   have h2:(w.drew.alloc (.cells cur Ty fr)).heap[b]? = w.drew.heap[b]?:=Below.heap_alloc _ _ _ hlt
   simp only [World.cell?] at h1 ⊢
   rw [h2];exact h1
 ·have hlt:b < w.heap.size:=Nat.lt_of_lt_of_le hb.1 h.below.size
  unfold immRow
  rw [if_neg (by omega)]
 ·have hlt:=RelG.fresh h e
  unfold immRow
  rw [if_neg (by omega)];exact e
 ·have hlt:=h.lt g p e
  refine ⟨Below.heap_alloc _ _ _ (by simpa using hlt),fun j=>?_⟩
  unfold immRow
  rw [if_neg (by omega)]
theorem pbytS_does (hT:T=tabOf P) (h:RelG Φ0 W M Φ μ ω σ a w) (o:Oper) {d:Nat} (hd:o.dst=some d) (hM:d < M) {ts td:TypeId} {x:Operand} (hop:o.op = .convert ts td x) {si di:TyI} (hs:T.at ts=some si) (ht:T.at td=some di) {v:PV} (hv:pbytS T si.kind di.kind (pev σ x)=some v):Does P Φ0 W M a w o (σ.put d v):=by
 unfold pbytS at hv
 split at hv
 case h_2=>cases hv
 rename_i s hx
 split at hv
 case h_2=>cases hv
 rename_i e k by_ zr hk1 hk2
 split at hv
 case h_2=>cases hv
 rename_i ei he
 split at hv
 case h_2=>cases hv
 rename_i hke
 split at hv
 case isFalse=>cases hv
 rename_i hsz
 cases hv
 have hxr:=h.ev x
 rw [hx] at hxr
 obtain ⟨hxv,-⟩:=hxr.val_inv
 obtain ⟨hu,-⟩:=slice_get (tab_at hT ht) hk2
 have hs2:=kind_str (tab_at hT hs) hk1
 have he':=kind_int (tab_at hT he) hke
 have hrun:=run_bytes_of_string w ts td e s hs2 hu he'
 have hl:(strC s).length=s.size:=by rw [strC,List.length_map,Array.length_toList];rfl
 have hcap:=grownCap_ge w s.size 0 e
 have hcap2:=grownCap_le_maxLen w s.size 0 e (by unfold maxLen;omega)
 have h1:=h.newRow (bytesRow s (grownCap w s.size 0 e)) e ((bytesRow s (grownCap w s.size 0 e)).size,(bytesRow s (grownCap w s.size 0 e)).size+1)
 have hrep:Rep (immRow Φ w.heap.size (bytesRow s (grownCap w s.size 0 e))) μ (.sl s.size 1 (strC s) none) (.slice (some ⟨w.heap.size,0,none⟩) s.size (grownCap w s.size 0 e)):=by
  refine .sl s.size 1 (strC s) none w.heap.size 0 _ (fun j=>.int .u8 ((s.data.toList.getD j 0).toNat:Int)) (by rw [hl,Nat.mul_one]) hcap hcap2 (fun j hj=>?_) (fun j c hc=>?_)
  ·rw [hl] at hj
   have hj' : j < s.data.size:=hj
   unfold immRow
   rw [if_pos rfl,Nat.zero_add,bytesRow,Array.getElem?_append_left (by simpa using hj')]
   rw [Array.getElem?_map,Array.getElem?_eq_getElem hj',Option.map_some,List.getD_eq_getElem?_getD,Array.getElem?_toList,Array.getElem?_eq_getElem hj']
   rfl
  ·simp only [strC,List.getElem?_map] at hc
   obtain ⟨b,hb,rfl⟩:=Option.map_eq_some_iff.1 hc
   have:s.data.toList.getD j 0=b:=by rw [List.getD_eq_getElem?_getD,hb];rfl
   rw [this]
   exact .val _ rfl
 have h2:=h1.put hM hrep rfl
 refine ⟨_,_,_,?_, .inl rfl,_,μ,ω,by rw [hd];exact h2⟩
 simp only [execOp,hop,hxv,Sem.run_bind,hrun,Result.andThen_ok,Sem.run_pure]
theorem slcA_does (hT:T=tabOf P) (h:RelG Φ0 W M Φ μ ω σ a w) (o:Oper) {d:Nat} (hd:o.dst=some d) (hM:d < M) {t:TypeId} {x:Operand} (hop:o.op = .slice t x none none none) {ti:TyI} (ht:T.at t=some ti) {n k:Nat} {e:TypeId} {ag:Bool} (hk:ti.kind = .arr n e k ag) {cs:List PV} (hx:pev σ x = .ep cs 0) (hl:cs.length=n * k) (hn:0 < n∧n≤1000000000):Does P Φ0 W M a w o (σ.put d (.sl n k cs (some (e+1000000)))):=by
 have hv:=h.ev x
 rw [hx] at hv
 obtain ⟨b,o',us,hvv,hp,hr⟩:=hv.ep_inv
 obtain ⟨hu,i',d',e1,e2,e3,e4⟩:=arr_get (tab_at hT ht) hk
 obtain ⟨r1,r2,r3⟩:=bounds_sound (P:=P) (w:=w) (Φ:=Φ) (μ:=μ) (isS:=false) (x:=none) (y:=none) (vx:=none) (vy:=none) trivial trivial (Nat.le_refl n) (show pbound n n none=some n by simp [pbound]) (show pbound 0 n none=some 0 by simp [pbound])
 have hm:n≤maxLen:=by unfold maxLen;omega
 have hrep:Rep Φ μ (.sl n k cs (some (e+1000000))) (.slice (some ⟨b,o',none⟩) n n):=.sl n k cs _ b o' n us hl (Nat.le_refl _) hm hp hr
 refine ⟨_, .slice (some ⟨b,o',none⟩) n n,w,?_, .inl rfl,Φ,μ,ω,by rw [hd];exact h.putFull hM (Nat.le_add_left _ _) hrep⟩
 simp only [execOp,hop,hvv,Instr.sliceAt,Sem.run_bind,Option.map_none,run_underlying hu,Result.andThen_ok,Instr.sureAddr,r1,run_size e1,e2,Sem.run_pure,Nat.add_zero]
 simp [Addr.add_lit]
theorem presM_sound (hT:T=tabOf P) (h:RelG Φ0 W M Φ μ ω σ a w) (o:Oper) {hd:Bool} {id:Nat} (hidl:id < 1000000) {E:Eff} (hp:presM T hd id σ o.op=some E) (hdst:∀d,o.dst=some d→d < M) (hkind:(noDst o.op=true→o.dst=none)∧(needDst o.op=true→o.dst.isSome=true)) :
  Does P Φ0 W M a w o (σ.app o.dst E):=by
 obtain ⟨dst,op,ty,pos,after,guard⟩:=o
 simp only at hp hdst hkind
 unfold presM at hp
 split at hp
 ·rename_i t r
  obtain ⟨d,rfl⟩:=Option.isSome_iff_exists.1 (hkind.2 rfl)
  split at hp
  case h_2=>cases hp
  rename_i hb hm
  cases hp
  have h1:=h.newMap hidl hb hm (.map [] 0) (.map #[] 0) ⟨rfl,rfl⟩
  have h2:=h1.put (d:=d) (hdst d rfl) (p:=.mref id) (.mref id w.heap.size (by simp [upd_if])) rfl
  refine ⟨_, .map (some w.heap.size),w.alloc (.map #[] 0),?_, .inl rfl,Φ,_,_,h2⟩
  simp [execOp,Instr.makeMap]
 ·rename_i t x
  obtain ⟨d,rfl⟩:=Option.isSome_iff_exists.1 (hkind.2 rfl)
  split at hp
  case h_2=>cases hp
  rename_i ti mid es clock ht hmo hb hm
  split at hp
  case h_2=>cases hp
  rename_i kt et hkd
  cases hp
  obtain ⟨hx,hmm⟩:=mapOf_spec hmo
  have hxr:=h.ev x
  rw [hx] at hxr
  obtain ⟨g,hg,hxv⟩:=hxr.mref_inv
  have hu:=kind_map (tab_at hT ht) hkd
  obtain ⟨g',k1,k2,k3,k4,hst,ents,k5,k6,k7⟩:=h.map _ _ hmm
  rw [hg] at k1;cases k1
  have h1:=h.newMap hidl hb hm (.iter mid clock [] clock) (.mapIter (some g) clock #[] clock) ⟨g,hg,rfl⟩
  have h2:=h1.put (d:=d) (hdst d rfl) (p:=.ptr id 0) (.ptr id 0 w.heap.size (by simp [upd_if])) rfl
  refine ⟨_, .pointer (some ⟨w.heap.size,0,none⟩),w.alloc (.mapIter (some g) clock #[] clock),?_, .inl rfl,Φ,_,_,h2⟩
  simp [execOp,Instr.range,run_underlying hu,hxv,(Go.run_getObj_map (P:=P) (w:=w) _ _ _ k5)]
 ·rename_i t x k v
  exact pput_sound hT h _ (.inl rfl) (hkind.1 rfl) hp
 ·rename_i t x k v
  exact pput_sound hT h _ (.inr rfl) (hkind.1 rfl) hp
 ·rename_i t x k ok
  obtain ⟨d,rfl⟩:=Option.isSome_iff_exists.1 (hkind.2 rfl)
  split at hp
  ·rename_i hc
   obtain ⟨-,rfl⟩:=hc
   exact ptake_sound hT h _ rfl (hdst d rfl) rfl hp
  ·cases hp
 ·rename_i t x lo hi mx
  obtain ⟨d,rfl⟩:=Option.isSome_iff_exists.1 (hkind.2 rfl)
  split at hp
  case h_3=>cases hp
  case h_2=>
   rename_i ti ht
   obtain ⟨v,hv,rfl⟩:=Option.map_eq_some_iff.1 hp
   unfold parr at hv
   split at hv
   case h_2=>cases hv
   rename_i n e k ag cs hk hx hlo hhi
   split at hv
   case isFalse=>cases hv
   rename_i hc
   cases hv
   cases lo with
   |some y=>cases hlo
   |none=>
    cases hi with
    |some y=>cases hhi
    |none=>exact slcA_does hT h _ rfl (hdst d rfl) rfl ht hk hx hc.1 hc.2
  rename_i ti m ht
  obtain ⟨v,hv,rfl⟩:=Option.map_eq_some_iff.1 hp
  have ho:∀y:Option Operand,RepO Φ μ (y.map (pev σ)) (y.map a.eval):=by
   intro y
   cases y with
   |none=>trivial
   |some y=>exact h.ev y
  obtain ⟨ad,n,k,cs,E,rfl,r0,r1,r2⟩:=pfull_sound (P:=P) (tab_at hT ht) h (h.ev x) (ho lo) (ho hi) (ho (some m)) hv
  refine ⟨_, .slice ad n n,w,?_, .inl rfl,Φ,μ,ω,h.putFull (hdst d rfl) r0 r2⟩
  simp only [execOp,Sem.run_bind]
  simp only [Option.map_some] at r1 ⊢
  rw [r1]
  rfl
 ·rename_i s d x
  obtain ⟨dd,rfl⟩:=Option.isSome_iff_exists.1 (hkind.2 rfl)
  split at hp
  case isFalse=>
   split at hp
   case h_2=>cases hp
   rename_i si di hs hd'
   obtain ⟨v,hv,rfl⟩:=Option.map_eq_some_iff.1 hp
   exact pbytS_does hT h _ rfl (hdst dd rfl) rfl hs hd' hv
  split at hp
  case h_2=>cases hp
  rename_i si di hs hd'
  obtain ⟨v,hv,rfl⟩:=Option.map_eq_some_iff.1 hp
  obtain ⟨l,rfl,hrun⟩:=pstrM_sound hT h hs hd' hv
  refine does_ret (p:=.val (.string (strI l))) _ h hdst (v:=.string (strI l)) ?_ (.val _ rfl) rfl ⟨rfl,rfl⟩ rfl
  simp only [execOp,Sem.run_bind,hrun,Result.andThen_ok,Sem.run_pure]
 ·rename_i t l c
  obtain ⟨dd,rfl⟩:=Option.isSome_iff_exists.1 (hkind.2 rfl)
  split at hp
  case h_2=>cases hp
  rename_i ti ht
  obtain ⟨v,hv,rfl⟩:=Option.map_eq_some_iff.1 hp
  unfold pmakeI at hv
  split at hv
  case h_2=>cases hv
  rename_i e k by_ zr kx x ky y hk hx hy
  split at hv
  case isFalse=>cases hv
  rename_i hc
  obtain ⟨rfl,c1,c2,c3,c4⟩:=hc
  cases hv
  exact mkI_does hT h _ rfl (hdst dd rfl) rfl ht hk hx hy ⟨c1,c2,c3⟩ c4 rfl
 ·rename_i c
  obtain ⟨callee,args,argTypes⟩:=c
  simp only at hp
  split at hp
  ·split at hp
   case h_2=>cases hp
   rename_i x k t tl ea et
   obtain rfl:args = #[x,k]:=by rw [←Array.toArray_toList (xs:=args),ea]
   obtain rfl:argTypes=(t :: tl).toArray:=by rw [←Array.toArray_toList (xs:=argTypes),et]
   exact pdel_sound hT h _ hdst rfl hp
  ·split at hp
   case h_2=>cases hp
   rename_i x y t tl ea et
   obtain rfl:args = #[x,y]:=by rw [←Array.toArray_toList (xs:=args),ea]
   obtain rfl:argTypes=(t :: tl).toArray:=by rw [←Array.toArray_toList (xs:=argTypes),et]
   split at hp
   ·rename_i ti ht
    exact pcopy_sound hT h _ hdst rfl ht hp
   ·cases hp
  ·cases hp
 ·cases hp
end
end Go.Proofs.YtmeekbjhpidcgaaDoor
