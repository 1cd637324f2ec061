/- Out of: PwI2, PwI3, PwI4, PwJ, PwK, PwK2, PwL, PwM, Region, PwP, PwQ0, PlainY, PlainS, Hu, Wire2. -/
import Derived.Laws.IdiomStrings
import Derived.RangeFuncRecord
import Derived.Orders
import Derived.Test.YtmciloafahkolaaGreatDoorG1
namespace Go.Proofs.YtmciloafahkolaaGreatDoor
set_option maxRecDepth 100000
set_option maxHeartbeats 40000000
set_option linter.unusedSimpArgs false
set_option linter.unusedVariables false
set_option linter.unnecessarySimpa false
section
open Go.RowKit
def PS.freeB (σ:PS) (i:Nat):Bool:=match σ.b i,σ.m i with
 |none,none=>true
 |_,_=>false
theorem PS.freeB_spec {σ:PS} {i:Nat} (h:σ.freeB i=true):σ.b i=none∧σ.m i=none:=by
 unfold PS.freeB at h
 split at h
 ·rename_i h1 h2;exact ⟨h1,h2⟩
 ·cases h
theorem PS.freeB_iff {σ:PS} {i:Nat} : σ.freeB i=true↔σ.b i=none∧σ.m i=none:=by
 refine ⟨PS.freeB_spec,fun ⟨h1,h2⟩=>?_⟩
 simp [PS.freeB,h1,h2]
def X4q (σ:PS) (v:Operand):PV×Option Nat:=if (Kj σ v).ownB then (Kj σ v,X3u v) else (pev σ v,none)
def mput (ki:TyI) (es:List (Nat×PV×PV)) (clock:Nat) (kv:Value) (c:PV):Option PMap:=
 if X6j ki.kind kv then match skT ki.kind with
  |some k=>match X0h k kv es 0 with
   |some (some j)=>match es[j]? with
    |some (s,_,_)=>some (.map (es.set j (s, .val kv,c)) clock)
    |none=>none
   |some none=>some (.map (es ++ [(clock, .val kv,c)]) (clock+1))
   |none=>none
  |none=>none
 else none
def mdel (ki:TyI) (es:List (Nat×PV×PV)) (clock:Nat) (kv:Value):Option PMap:=
 if X6j ki.kind kv then match skT ki.kind with
  |some k=>match X0h k kv es 0 with
   |some (some j)=>some (.map (es.eraseIdx j) clock)
   |some none=>some (.map es clock)
   |none=>none
  |none=>none
 else none
def X7f (m:Nat→Option PMap):PV→Option (Nat×List (Nat×PV×PV)×Nat)
 | .mref id=>match m id with
  |some (.map es clock)=>some (id,es,clock)
  |_=>none
 |_=>none
def pput (T:Tab) (σ:PS) (t:TypeId) (x k v:Operand):Option Eff:=
 match T.at t with
 |some ti=>match ti.kind with
  | .map kt _=>match T.at kt,X7f σ.m (pev σ x),pev σ k with
   |some ki,some (id,es,clock), .val kv=>(mput ki es clock kv (X4q σ v).1).map fun X=>⟨.tup [],[],(X4q σ v).2,[(id,X)]⟩
   |_,_,_=>none
  |_=>none
 |none=>none
def pdel (T:Tab) (σ:PS) (t:TypeId) (x k:Operand):Option Eff:=
 match T.at t with
 |some ti=>match ti.kind with
  | .map kt _=>match T.at kt,X7f σ.m (pev σ x),pev σ k with
   |some ki,some (id,es,clock), .val kv=>(mdel ki es clock kv).map fun X=>⟨.tup [],[],none,[(id,X)]⟩
   |_,_,_=>none
  |_=>none
 |none=>none
def Xgu (T:Tab) (σ:PS) (t:TypeId) (x k:Operand):Option Eff:=
 match T.at t with
 |some ti=>match ti.kind with
  | .map kt _=>match T.at kt,X7f σ.m (pev σ x),pev σ k with
   |some ki,some (id,es,clock), .val kv=>if X6j ki.kind kv then match skT ki.kind with
    |some sk=>match X0h sk kv es 0 with
     |some (some j)=>match es[j]? with
      |some (s,kp, .sl n kk cs (some E))=>some ⟨.sl n kk cs (some E),[],none,[(id, .map (es.set j (s,kp, .sl n kk cs none)) clock)]⟩
      |_=>none
     |_=>none
    |none=>none
    else none
   |_,_,_=>none
  |_=>none
 |none=>none
def X36 (b:Nat→Option (List PV)) (k:Nat):PV→Option (Nat×List PV)
 | .nilsl=>some (0,[])
 | .sl n k' cs _=>if k' = k∧cs.all PV.one=true then some (n,cs.map PV.bare) else none
 | .msl id o n k' => if k' = k then match b id with
  |some bs=>if o+n * k≤bs.length then some (n,((bs.drop o).take (n * k)).map PV.bare) else none
  |none=>none else none
 | .val (.string s)=>if k=1 then some (s.size,s.data.toList.map fun x=>.val (.int .u8 (x.toNat:Int))) else none
 |_=>none
def Xjz (b:Nat→Option (List PV)) (td:TD) (d s:PV):Option Eff:=
 match td,d with
 | .slice _ k _ _, .msl id o n k' => match b id,X36 b k s with
  |some bs,some (n2,cs)=>if k' = k∧o+min n2 n * k≤bs.length then some ⟨.val (.int .i64 (min n2 n:Nat)),[(id,splF bs o (cs.take (min n2 n * k)))],none,[]⟩ else none
  |_,_=>none
 |_,_=>none
def Y4s (td:TD) (x:PV) (lo hi mx:Option PV):Option PV:=
 match td,x with
 | .slice e k' _ _, .sl n k cs _=>if k' = k then match Yf n n hi,Yf n n mx with
  |some h,some m=>match Yf 0 h lo with
   |some l=>if hi.isSome∧mx.isSome∧m=h then some (.sl (h - l) k ((cs.drop (l * k)).take ((h - l) * k)) (some (e+1000000))) else none
   |none=>none
  |_,_=>none else none
 | .slice e k' _ _, .nilsl=>match Yf 0 0 hi,Yf 0 0 mx with
  |some _,some _=>match Yf 0 0 lo with
   |some _=>if hi.isSome∧mx.isSome then some (.sl 0 k' [] (some (e+1000000))) else none
   |none=>none
  |_,_=>none
 |_,_=>none
def strT:TypeId:=9
def Xkx (T:Tab) (b:Nat→Option (List PV)) (src dst:TD):PV→Option PV
 | .msl id o n k=>match src,dst with
  | .slice e _ _ _, .str=>match T.at e,b id with
   |some ei,some bs=>match ei.kind with
    | .int .u8=>if k=1∧o+n≤bs.length then (bytesOf (((bs.drop o).take n).map PV.bare)).map fun l=>.val (.string (strI l)) else none
    |_=>none
   |_,_=>none
  |_,_=>none
 |_=>none
def Xt3:TD→PV→PV→Option PV
 | .slice e k by_ zr, .val (.int _ x), .val (.int _ y)=>if x=y∧0≤x∧(by_:Int) * x≤281474976710656∧x≤9223372036854775807∧e < 1000000 then some (.sl x.toNat k (List.replicate x.toNat zr).flatten (some e)) else none
 |_,_,_=>none
def strC (s:ByteArray):List PV:=s.data.toList.map fun b=>.val (.int .u8 (b.toNat:Int))
def Xy4 (T:Tab) (src dst:TD):PV→Option PV
 | .val (.string s)=>match src,dst with
  | .str, .slice e _ _ _=>match T.at e with
   |some ei=>match ei.kind with
    | .int .u8=>if s.size≤1000000000 then some (.sl s.size 1 (strC s) none) else none
    |_=>none
   |none=>none
  |_,_=>none
 |_=>none
def parr (k:TD) (x:PV) (lo hi:Option PV):Option PV:=match k,x,lo,hi with
 | .arr n e k _, .ep cs 0,none,none=>if cs.length=n * k∧0 < n∧n≤1000000000 then some (.sl n k cs (some (e+1000000))) else none
 |_,_,_,_=>none
def Zf (T:Tab) (hd:Bool) (id:Nat) (σ:PS):Op→Option Eff
 | .makeMap _ r=>match r,σ.b id,σ.m id with
  |none,none,none=>some ⟨.mref id,[],none,[(id, .map [] 0)]⟩
  |_,_,_=>none
 | .range t x=>match T.at t,X7f σ.m (pev σ x),σ.b id,σ.m id with
  |some ti,some (mid,_,clock),none,none=>match ti.kind with
   | .map _ _=>some ⟨.ptr id 0,[],none,[(id, .iter mid clock [] clock)]⟩
   |_=>none
  |_,_,_,_=>none
 | .mapUpdate t x k v=>pput T σ t x k v
 | .insert t x k v=>pput T σ t x k v
 | .lookup t x k ok=>if hd∧ok=false then Xgu T σ t x k else none
 | .slice t x lo hi mx=>match T.at t,mx with
  |some ti,some m=>(Y4s ti.kind (pev σ x) (lo.map (pev σ)) (hi.map (pev σ)) (some (pev σ m))).map fun v=>⟨v,[],none,[]⟩
  |some ti,none=>(parr ti.kind (pev σ x) (lo.map (pev σ)) (hi.map (pev σ))).map fun v=>⟨v,[],none,[]⟩
  |_,_=>none
 | .convert s d x=>if Nat.beq d strT=true then match T.at s,T.at d with
  |some si,some di=>(Xkx T σ.b si.kind di.kind (pev σ x)).map fun v=>⟨v,[],none,[]⟩
  |_,_=>none else match T.at s,T.at d with
  |some si,some di=>(Xy4 T si.kind di.kind (pev σ x)).map fun v=>⟨v,[],none,[]⟩
  |_,_=>none
 | .makeSlice t l c=>match T.at t with
  |some ti=>(Xt3 ti.kind (pev σ l) (pev σ c)).map fun v=>⟨v,[],none,[]⟩
  |none=>none
 | .call c=>match c.callee with
  | .builtin .delete=>match c.args.toList,c.argTypes.toList with
   | [x,k],t :: _=>pdel T σ t x k
   |_,_=>none
  | .builtin .copy=>match c.args.toList,c.argTypes.toList with
   | [d,s],t :: _=>match T.at t with
    |some ti=>Xjz σ.b ti.kind (pev σ d) (pev σ s)
    |none=>none
   |_,_=>none
  |_=>none
 |_=>none
end
section
open Go.RowKit
variable {Φ0:Ent} {W:World} {M:Nat} {Φ:Imm} {μ:Nat→Option Nat} {ω:Nat→Option Who} {σ:PS} {a:Act} {w:World} {P:Program} {T:Tab}
theorem X12 {m:Nat→Option PMap} {x:PV} {id clock:Nat} {es:List (Nat×PV×PV)} (h:X7f m x=some (id,es,clock)):x = .mref id∧m id=some (.map es clock):=by
 unfold X7f at h
 split at h
 ·split at h
  ·rename_i hm;cases h;exact ⟨rfl,hm⟩
  ·cases h
 ·cases h
theorem Xcv (a b:ByteArray):(a == b)=(a.data == b.data):=rfl
theorem Xxj {k:SK} {a b:Value} (h:veq k a b=some true):Instr.sameBits 10000 b a=true:=by
 unfold veq at h
 split at h
 ·split at h
  ·rename_i hk;subst hk;simp at h;subst h;simp [Instr.sameBits]
  ·cases h
 ·simp only [Option.some.injEq,Xcv,beq_iff_eq] at h
  simp [Instr.sameBits,Xcv,h]
 ·simp at h;subst h;simp [Instr.sameBits]
 ·cases h
theorem X0m {g:Nat} {es:Array MapEntry} {clock:Nat} (o:Obj) (hb:w.heap[g]? = some (.map es clock)):(setObj g o).run P w = .ok () (World.setO w g o):=by
 have h:(Go.setObj g o).run P w = .ok () { w with heap:=w.heap.setIfInBounds g o }:=by simp [Go.setObj,Sem.run,hb]
 exact h
theorem RelG.mput (h:RelG Φ0 W M Φ μ ω σ a w) {t kt et:TypeId} {ki:TyI} (hu:P.underlying t=some (.map kt et)) (hk:tyI P kt=some ki) {id clock g:Nat} {es:List (Nat×PV×PV)} (hm:σ.m id=some (.map es clock)) (hg:μ id=some g) {kv:Value} (hpl:X2v kv=true) {c:PV} {cv:Value} (hc:Rep Φ μ c cv) (hco:c.ownB=false) {X:PMap} (hX:mput ki es clock kv c=some X) :
  ∃w' ents' j st es' clock',(Instr.mapUpdate t (.map (some g)) kv cv).run P w = .ok () w'∧RelG Φ0 W M Φ μ ω { σ with m:=upd σ.m id (some X) } a w'∧X = .map es' clock'∧w'.heap[g]? = some (.map ents' clock')∧es'[j]? = some (st, .val kv,c)∧(∃en,ents'[j]? = some en∧en.val=cv) ∧
   (∀c',mput ki es clock kv c' = some (.map (es'.set j (st, .val kv,c')) clock')):=by
 obtain ⟨g',k1,k2,k3,k4,hst,ents,k5,k6,k7⟩:=h.map _ _ hm
 rw [hg] at k1;cases k1
 have hgl:=h.lt g _ k3
 have hE:Xtc Φ μ es ents:=⟨k6,fun j s k c hj=>by obtain ⟨e,e1,e2,e3,e4,-⟩:=k7 j s k c hj;exact ⟨e,e1,e2,e3,e4⟩⟩
 unfold Go.Proofs.YtmciloafahkolaaGreatDoor.mput at hX
 split at hX
 case isFalse=>cases hX
 rename_i hko
 split at hX
 case h_2=>cases hX
 rename_i sk hsk
 split at hX
 ·rename_i j hmf
  obtain ⟨h1,s,kk,c0,e,q1,q2,q3,q4,q5,q6,q7,q8⟩:=X3z (w:=w) hk hsk hko hE hmf
  rw [q1] at hX
  simp only [Option.some.injEq] at hX
  subst hX
  have hkey:Instr.keyThatStays e.key kv=pure kv:=by simp [Instr.keyThatStays,Xxj q7]
  have hjl:j < es.length:=(List.getElem?_eq_some_iff.1 q1).1
  have hjl2:j < ents.size:=by rw [k6];exact hjl
  have hr:=h.setMap (X':=.map (es.set j (s, .val kv,c)) clock) hm hg (.map (ents.modify j fun e=>{ e with key:=kv,val:=cv }) clock) ⟨X9b hst q1,_,rfl,by simp [k6],fun q s' k' c' hq=>by
   rcases Xd6 hq with ⟨rfl,e9⟩|⟨hne,hq⟩
   ·cases e9
    refine ⟨{ e with key:=kv,val:=cv },by rw [Array.getElem?_modify,if_pos rfl,q2];rfl,q3, .val _ hpl,hc,fun n kk cs E e=>?_⟩
    rw [e] at hco;simp [PV.ownB] at hco
   ·obtain ⟨e',f1,f2,f3,f4,f5⟩:=k7 q s' k' c' hq
    exact ⟨e',by rw [Array.getElem?_modify,if_neg (Ne.symm hne)];exact f1,f2,f3,f4,f5⟩⟩
  refine ⟨_,_,j,s,_,_,?_,hr,rfl,X8m w g _ hgl,by rw [List.getElem?_set,if_pos rfl,if_pos hjl],⟨{ e with key:=kv,val:=cv },by rw [Array.getElem?_modify,if_pos rfl,q2];rfl,rfl⟩,fun c' => ?_⟩
  ·simp only [Instr.mapUpdate,Sem.run_bind,run_underlying hu,Result.andThen_ok,(Go.run_getObj_map (P:=P) (w:=w) _ _ _ k5),h1,q8,q2,Option.map_some,Option.getD_some,hkey,Sem.run_pure,X0m _ k5]
  ·unfold Go.Proofs.YtmciloafahkolaaGreatDoor.mput
   rw [if_pos hko,hsk]
   simp only [hmf,q1,List.set_set]
 ·rename_i hmf
  obtain ⟨h1,h2⟩:=X3z (w:=w) hk hsk hko hE hmf
  simp only [Option.some.injEq] at hX
  subst hX
  have hr:=h.setMap (X':=.map (es ++ [(clock, .val kv,c)]) (clock+1)) hm hg (.map (ents.push { key:=kv,val:=cv,born:=clock }) (clock+1)) ⟨⟨by
    rw [List.map_append,List.nodup_append]
    refine ⟨hst.1,S_,fun x hx y hy=>?_⟩
    obtain ⟨e,he,rfl⟩:=List.mem_map.1 hx
    simp at hy
    have:=hst.2 e he
    omega,fun e he=>by
    rcases List.mem_append.1 he with he|he
    ·have:=hst.2 e he;omega
    ·simp at he;subst he;simp⟩,_,rfl,by simp [k6],fun q s' k' c' hq=>by
   by_cases hql:q < es.length
   ·rw [List.getElem?_append_left hql] at hq
    obtain ⟨e',f1,f2,f3,f4,f5⟩:=k7 q s' k' c' hq
    exact ⟨e',by rw [Array.getElem?_push,if_neg O_];exact f1,f2,f3,f4,f5⟩
   ·rw [List.getElem?_append_right O_] at hq
    have hq0:q - es.length=0:=by
     have:=(List.getElem?_eq_some_iff.1 hq).1
     simp at this;omega
    rw [hq0] at hq
    simp at hq
    obtain ⟨rfl,rfl,rfl⟩:=hq
    refine ⟨_,by rw [Array.getElem?_push,if_pos O_],rfl, .val _ hpl,hc,fun n kk cs E e=>?_⟩
    rw [e] at hco;simp [PV.ownB] at hco⟩
  refine ⟨_,_,es.length,clock,_,_,?_,hr,rfl,X8m w g _ hgl,S_,⟨_,by rw [Array.getElem?_push,if_pos O_],rfl⟩,fun c' => ?_⟩
  ·simp only [Instr.mapUpdate,Sem.run_bind,run_underlying hu,Result.andThen_ok,(Go.run_getObj_map (P:=P) (w:=w) _ _ _ k5),h1,h2,Sem.run_pure,X0m _ k5]
  ·unfold Go.Proofs.YtmciloafahkolaaGreatDoor.mput
   rw [if_pos hko,hsk]
   simp only [hmf]
   congr 2
   rw [List.set_append_right _ _ (Nat.le_refl _)]
   simp
 ·cases hX
theorem RelG.mdel (h:RelG Φ0 W M Φ μ ω σ a w) {t t2 ty kt et:TypeId} {ki:TyI} (hu:P.underlying t=some (.map kt et)) (hk:tyI P kt=some ki) {id clock g:Nat} {es:List (Nat×PV×PV)} (hm:σ.m id=some (.map es clock)) (hg:μ id=some g) {kv:Value} {X:PMap} (hX:mdel ki es clock kv=some X) (tl:List TypeId) :
  ∃w',(Builtin.delete_ (t :: tl).toArray ty #[.map (some g),kv]).run P w = .ok (.tuple #[]) w'∧RelG Φ0 W M Φ μ ω { σ with m:=upd σ.m id (some X) } a w':=by
 obtain ⟨g',k1,k2,k3,k4,hst,ents,k5,k6,k7⟩:=h.map _ _ hm
 rw [hg] at k1;cases k1
 have hE:Xtc Φ μ es ents:=⟨k6,fun j s k c hj=>by obtain ⟨e,e1,e2,e3,e4,-⟩:=k7 j s k c hj;exact ⟨e,e1,e2,e3,e4⟩⟩
 unfold Go.Proofs.YtmciloafahkolaaGreatDoor.mdel at hX
 split at hX
 case isFalse=>cases hX
 rename_i hko
 split at hX
 case h_2=>cases hX
 rename_i sk hsk
 split at hX
 ·rename_i j hmf
  obtain ⟨h1,s,kk,c0,e,q1,q2,q3,q4,q5,q6,q7,q8⟩:=X3z (w:=w) hk hsk hko hE hmf
  simp only [Option.some.injEq] at hX
  subst hX
  have hjl:j < ents.size:=(Array.getElem?_eq_some_iff.1 q2).1
  have htl:(ents.eraseIdxIfInBounds j).toList=ents.toList.eraseIdx j:=by
   rw [Array.eraseIdxIfInBounds_eq,dif_pos hjl];simp
  have hr:=h.setMap (X':=.map (es.eraseIdx j) clock) hm hg (.map (ents.eraseIdxIfInBounds j) clock) ⟨⟨by
    have:=(List.eraseIdx_sublist es j).map (·.1)
    exact this.nodup hst.1,fun e he=>hst.2 e ((List.eraseIdx_sublist es j).subset he)⟩,_,rfl,by
    rw [←Array.length_toList,htl,List.length_eraseIdx,List.length_eraseIdx,Array.length_toList,k6],fun q s' k' c' hq=>by
   rw [List.getElem?_eraseIdx] at hq
   have hget:(ents.eraseIdxIfInBounds j)[q]? = if q < j then ents[q]? else ents[q+1]?:=by
    rw [←Array.getElem?_toList,htl,List.getElem?_eraseIdx];simp
   rw [hget]
   split at hq
   ·rename_i hlt;rw [if_pos hlt];exact k7 _ s' k' c' hq
   ·rename_i hlt;rw [if_neg hlt];exact k7 _ s' k' c' hq⟩
  refine ⟨_,?_,hr⟩
  simp only [Builtin.delete_,List.getElem?_toArray,List.getElem?_cons_zero,List.getElem?_cons_succ,Sem.run_bind,run_underlying hu,Result.andThen_ok,(Go.run_getObj_map (P:=P) (w:=w) _ _ _ k5),h1,q8,Sem.run_pure,X0m _ k5]
 ·rename_i hmf
  obtain ⟨h1,h2⟩:=X3z (w:=w) hk hsk hko hE hmf
  simp only [Option.some.injEq] at hX
  subst hX
  have hr:=h.setMap (X':=.map es clock) hm hg (.map ents clock) ⟨hst,ents,rfl,k6,k7⟩
  refine ⟨_,?_,hr⟩
  simp only [Builtin.delete_,List.getElem?_toArray,List.getElem?_cons_zero,List.getElem?_cons_succ,Sem.run_bind,run_underlying hu,Result.andThen_ok,(Go.run_getObj_map (P:=P) (w:=w) _ _ _ k5),h1,h2,Sem.run_pure,X0m _ k5]
 ·cases hX
theorem Xav (o:Oper) {σ1:PS} {w' : World} {μ' : Nat→Option Nat} {ω' : Nat→Option Who} {Φ' : Imm} (h:RelG Φ0 W M Φ' μ' ω' σ1 a w') (hdst:∀d,o.dst=some d→d < M) {p:PV} {v:Value} (hr:(execOp a.eval o).run P w = .ok (.value v) w') (hp:Rep Φ' μ' p v) (ho:p.ownB=false) {E:Eff} (hE:E.v=p∧E.dis=none) (hb:σ1=σ.app none E) :
  Does P Φ0 W M a w o (σ.app o.dst E):=by
 refine ⟨_,v,w',hr, .inl rfl,Φ',μ',ω',?_⟩
 obtain ⟨v',bx,dis,mx⟩:=E
 obtain ⟨h1,h2⟩:=hE
 simp only at h1 h2
 subst h1 h2 hb
 cases hd:o.dst with
 |none=>exact h
 |some d=>exact h.put (hdst d hd) hp ho
theorem Xeo (hT:T=Kf P) (h:RelG Φ0 W M Φ μ ω σ a w) (o:Oper) {t:TypeId} {x k v:Operand} (hop:o.op = .mapUpdate t x k v∨o.op = .insert t x k v) (hd:o.dst=none) {E:Eff} (hp:pput T σ t x k v=some E):Does P Φ0 W M a w o (σ.app o.dst E):=by
 rw [hd]
 unfold pput at hp
 split at hp
 case h_2=>cases hp
 rename_i ti ht
 split at hp
 case h_2=>cases hp
 rename_i kt et hkd
 split at hp
 case h_2=>cases hp
 rename_i ki id es clock kv hki hmo hkv
 obtain ⟨X,hX,rfl⟩:=Option.map_eq_some_iff.1 hp
 obtain ⟨hx,hm⟩:=X12 hmo
 have hxr:=h.ev x
 rw [hx] at hxr
 obtain ⟨g,hg,hxv⟩:=hxr.mref_inv
 have hkr:=h.ev k
 rw [hkv] at hkr
 obtain ⟨hkk,hpl⟩:=hkr.val_inv
 have hu:=X2s (Y9 hT ht) hkd
 have hrun:∀w',(Instr.mapUpdate t (.map (some g)) kv (a.eval v)).run P w = .ok () w'→(execOp a.eval o).run P w = .ok .skip w':=by
  intro w' hr
  rcases hop with hop|hop
  ·simp only [execOp,hop,Sem.run_bind,hxv,hkk,hr,Result.andThen_ok,Sem.run_pure]
  ·simp only [execOp,hop,Sem.run_bind,hxv,hkk,hr,Result.andThen_ok,Sem.run_pure]
 unfold X4q at hX ⊢
 split at hX
 ·rename_i hown
  simp only [hown,if_true]
  obtain ⟨s,n,kk,cs,E,rfl,hs⟩:∃s n kk cs E,v = .tmp s∧σ.t s = .sl n kk cs (some E):=by
   cases v with
   |tmp s=>
    simp only [Kj] at hown
    cases hσ:σ.t s with
    |sl n k cs own=>cases own with
     |none=>rw [hσ] at hown;simp [PV.ownB] at hown
     |some E=>exact ⟨s,n,k,cs,E,rfl,hσ⟩
    |_=>rw [hσ] at hown;simp [PV.ownB] at hown
   |const v=>have:=Xgy v;simp only [Kj,pev] at hown;rw [this] at hown;cases hown
   |global g=>have:=X3e g X3b;simp only [Kj,pev] at hown;rw [this] at hown;cases hown
   |func f=>cases hblt:Nat.blt f 1000000<;>simp [Kj,pev,PV.ownB,hblt] at hown
  simp only [Kj,hs] at hX ⊢
  -- first without the mark
  have hsome:∃Y,Go.Proofs.YtmciloafahkolaaGreatDoor.mput ki es clock kv (.sl n kk cs none)=some Y:=by
   unfold Go.Proofs.YtmciloafahkolaaGreatDoor.mput at hX ⊢
   split at hX
   case isFalse=>cases hX
   rename_i hko
   rw [if_pos hko]
   split at hX
   case h_2=>cases hX
   rename_i sk hsk
   split at hX
   ·rename_i j hmf
    split at hX
    ·exact ⟨_,rfl⟩
    ·cases hX
   ·exact ⟨_,rfl⟩
   ·cases hX
  obtain ⟨Y,hY⟩:=hsome
  have hcr:Rep Φ μ (.sl n kk cs none) (a.eval (.tmp s)):=by have:=h.ev (.tmp s);simp only [pev,hs] at this;exact this
  obtain ⟨w',ents',j,st,es',clock',r1,r2,rfl,r4,r5,⟨en,r6,r7⟩,r8⟩:=h.mput hu (Y9 hT hki) hm hg hpl hcr rfl hY
  obtain ⟨ω',r9⟩:=r2.giveM (s:=s) (id:=id) (n:=n) (k:=kk) (j:=j) (st:=st) (clock:=clock') (g:=g) (cs:=cs) (E:=E) (es:=es') (kp:=.val kv) (ents:=ents') (en:=en) hs (by simp [X8]) r5 hg r4 r6 r7
  have e1:=r8 (.sl n kk cs (some E))
  rw [hX] at e1
  cases e1
  refine ⟨_,undef,w',hrun w' r1, .inr ⟨rfl,rfl⟩,Φ,μ,ω',?_⟩
  have e2:upd (upd σ.m id (some (.map es' clock'))) id (some (.map (es'.set j (st, .val kv, .sl n kk cs (some E))) clock'))=upd σ.m id (some (.map (es'.set j (st, .val kv, .sl n kk cs (some E))) clock')):=by
   funext q;simp only [X8];by_cases hq:q=id<;>simp [hq]
  simp only at r9
  rw [e2] at r9
  rw [hd]
  simp only [PS.app,X3u,hs,List.foldl_nil,List.foldl_cons] at r9 ⊢
  exact r9
 ·rename_i hown
  simp only [hown,if_false,Bool.false_eq_true]
  obtain ⟨w',ents',j,st,es',clock',r1,r2,-⟩:=h.mput hu (Y9 hT hki) hm hg hpl (h.ev v) (X3x σ v) hX
  exact ⟨_,undef,w',hrun w' r1, .inr ⟨rfl,rfl⟩,Φ,μ,ω,by rw [hd];exact r2⟩
theorem Xom (hT:T=Kf P) (h:RelG Φ0 W M Φ μ ω σ a w) (o:Oper) (hdst:∀d,o.dst=some d→d < M) {t:TypeId} {tl:List TypeId} {x k:Operand} (hop:o.op = .call { callee:=.builtin .delete,args := #[x,k],argTypes:=(t :: tl).toArray }) {E:Eff} (hp:pdel T σ t x k=some E):Does P Φ0 W M a w o (σ.app o.dst E):=by
 unfold pdel at hp
 split at hp
 case h_2=>cases hp
 rename_i ti ht
 split at hp
 case h_2=>cases hp
 rename_i kt et hkd
 split at hp
 case h_2=>cases hp
 rename_i ki id es clock kv hki hmo hkv
 obtain ⟨X,hX,rfl⟩:=Option.map_eq_some_iff.1 hp
 obtain ⟨hx,hm⟩:=X12 hmo
 have hxr:=h.ev x
 rw [hx] at hxr
 obtain ⟨g,hg,hxv⟩:=hxr.mref_inv
 have hkr:=h.ev k
 rw [hkv] at hkr
 obtain ⟨hkk,hpl⟩:=hkr.val_inv
 have hu:=X2s (Y9 hT ht) hkd
 obtain ⟨w',r1,r2⟩:=h.mdel (ty:=o.type) (t2:=t) hu (Y9 hT hki) hm hg hX tl
 refine Xav (p:=.tup []) o r2 hdst (v:=.tuple #[]) ?_ (by have:=(RepL.nil (Φ:=Φ) (μ:=μ)).tup;exact this) rfl ⟨rfl,rfl⟩ rfl
 simp only [execOp,hop,resolve,invoke,builtin,Sem.run_bind,Sem.run_pure,Result.andThen_ok,List.map_toArray,List.map_cons,List.map_nil,hxv,hkk,r1]
theorem Xld (hT:T=Kf P) (h:RelG Φ0 W M Φ μ ω σ a w) (o:Oper) {d:Nat} (hd:o.dst=some d) (hM:d < M) {t:TypeId} {x k:Operand} (hop:o.op = .lookup t x k false) {E:Eff} (hp:Xgu T σ t x k=some E):Does P Φ0 W M a w o (σ.app o.dst E):=by
 unfold Xgu at hp
 split at hp
 case h_2=>cases hp
 rename_i ti ht
 split at hp
 case h_2=>cases hp
 rename_i kt et hkd
 split at hp
 case h_2=>cases hp
 rename_i ki id es clock kv hki hmo hkv
 split at hp
 case isFalse=>cases hp
 rename_i hko
 split at hp
 case h_2=>cases hp
 rename_i sk hsk
 split at hp
 case h_2=>cases hp
 rename_i j hmf
 split at hp
 case h_2=>cases hp
 rename_i s kp n kk cs E hj
 cases hp
 obtain ⟨hx,hm⟩:=X12 hmo
 have hxr:=h.ev x
 rw [hx] at hxr
 obtain ⟨g,hg,hxv⟩:=hxr.mref_inv
 have hkr:=h.ev k
 rw [hkv] at hkr
 obtain ⟨hkk,hpl⟩:=hkr.val_inv
 have hu:=X2s (Y9 hT ht) hkd
 obtain ⟨g',k1,k2,k3,k4,hst,ents,k5,k6,k7⟩:=h.map _ _ hm
 rw [hg] at k1;cases k1
 have hE:Xtc Φ μ es ents:=⟨k6,fun j s k c hj=>by obtain ⟨e,e1,e2,e3,e4,-⟩:=k7 j s k c hj;exact ⟨e,e1,e2,e3,e4⟩⟩
 obtain ⟨h1,s',kk',c',e,q1,q2,q3,q4,q5,q6,q7,q8⟩:=X3z (w:=w) (Y9 hT hki) hsk hko hE hmf
 obtain ⟨ω',r1⟩:=h.fetchM hM hm hj hg k5 q2
 refine ⟨_,e.val,w,?_, .inl rfl,Φ,μ,ω',?_⟩
 ·simp only [execOp,hop,Instr.lookup,Sem.run_bind,run_underlying hu,Result.andThen_ok,Sem.run_pure,hxv,hkk,(Go.run_getObj_map (P:=P) (w:=w) _ _ _ k5),h1,q8]
  rfl
 ·rw [hd]
  exact r1
theorem Xfq (h:RelG Φ0 W M Φ μ ω σ a w) {k:Nat} {x:PV} {v:Value} (hx:Rep Φ μ x v) {n:Nat} {cs:List PV} (hs:X36 σ.b k x=some (n,cs)) {e:TypeId} {i:TypeInfo} (hi:P.info? e=some i) (hk:i.size=k) (m:Nat) (hm:m≤n) :
  (Builtin.lenOf v).run P w = .ok n w∧∃us:List Value,(do Builtin.firstCells (←Go.sizeOf e) m v:Sem (Array Value)).run P w = .ok us.toArray w∧X4r Φ μ (cs.take (m * k)) us∧cs.length=n * k:=by
 have hsz:∀w,(Go.sizeOf e).run P w = .ok k w:=fun w=>by rw [Yc hi,hk]
 unfold X36 at hs
 split at hs
 ·cases hs
  obtain rfl:=hx.nilsl_inv
  refine ⟨rfl,[],by simp [Builtin.firstCells,hsz],by simp [X4r,RepL.nil],S_⟩
 ·rename_i n' k' cs' own
  split at hs
  case isFalse=>cases hs
  rename_i hc
  obtain ⟨rfl,hone⟩:=hc
  cases hs
  obtain ⟨ad,b,off,cap,us,rfl,c1,c2,c3,c4,c5,c6⟩:=hx.sl_inv
  have hlen:m * k'≤cs'.length:=by rw [c3];exact Nat.mul_le_mul_right _ hm
  have hrl:=X0v cs' us c6
  refine ⟨rfl,((List.range cs'.length).map us).take (m * k'),?_,⟨?_,?_,?_⟩,by simpa using c3⟩
  ·rcases Nat.eq_zero_or_pos n with h0|h0
   ·have hm0:m=0:=O_
    subst hm0
    cases ad with
    |none=>simp [Builtin.firstCells,hsz]
    |some ad=>simp [Builtin.firstCells,hsz,loadCells,loadCellsFrom]
   ·obtain rfl:=c4 h0
    simp only [Sem.run_bind,hsz,Result.andThen_ok,Builtin.firstCells]
    have:=run_loadCells_list (P:=P) (w:=w) ⟨b,off,none⟩ (((List.range cs'.length).map us).take (m * k')) (by
     intro j u hj
     rw [List.getElem?_take] at hj
     split at hj
     ·have hjl:j < cs'.length:=O_
      simp [hjl] at hj
      subst hj
      rw [Addr.add_lit]
      exact h.imm _ _ _ (c5 j hjl)
     ·cases hj)
    rw [T_,List.length_map,List.length_range,Nat.min_eq_left hlen] at this
    exact this
  ·refine ⟨S_,fun j c u h1 h2=>?_⟩
   rw [List.getElem?_take] at h1 h2
   split at h1
   ·rename_i hj
    rw [if_pos hj] at h2
    rw [M_] at h1
    obtain ⟨c',hc',rfl⟩:=Option.map_eq_some_iff.1 h1
    exact (hrl.2 j c' u hc' h2).bare
   ·cases h1
  ·intro u hu
   exact Xb7 hrl hone u (List.mem_of_mem_take hu)
  ·intro c hc
   obtain ⟨c',-,rfl⟩:=List.mem_map.1 (List.mem_of_mem_take hc)
   exact PV.bare_own _
 ·rename_i id o' n' k'
  split at hs
  case isFalse=>cases hs
  rename_i hkk
  subst hkk
  split at hs
  case h_2=>cases hs
  rename_i bs hb
  split at hs
  case isFalse=>cases hs
  rename_i hle
  cases hs
  obtain ⟨ad,cap,rfl,c1,c2,c4⟩:=hx.msl_inv
  obtain ⟨g,cur,Ty,b1,b2,b3,b4,b5,b6,b7⟩:=h.box id bs hb
  have hmk:m * k'≤n * k':=Nat.mul_le_mul_right _ hm
  have hget:∀j,j < n * k'→∃c u,bs[o' + j]? = some c∧cur[o' + j]? = some u∧u.oneCell' = true∧Rep Φ μ c u:=by
   intro j hj
   have hjl:o' + j < bs.length:=O_
   obtain ⟨u,r1,r2,r3,-⟩:=b7 (o' + j) bs[o' + j] (by simp [hjl])
   exact ⟨_,u,by simp [hjl],r1,r2,r3⟩
  refine ⟨rfl,((cur.toList.drop o').take (m * k')),?_,⟨?_,?_,?_⟩,by simp;omega⟩
  ·rcases Nat.eq_zero_or_pos n with h0|h0
   ·have hm0:m=0:=O_
    subst hm0
    cases ad with
    |none=>simp [Builtin.firstCells,hsz]
    |some ad=>simp [Builtin.firstCells,hsz,loadCells,loadCellsFrom]
   ·obtain ⟨g',hg',rfl⟩:=c4 h0
    rw [b1] at hg'; cases hg'
    simp only [Sem.run_bind,hsz,Result.andThen_ok,Builtin.firstCells]
    have:=run_loadCells_list (P:=P) (w:=w) ⟨g,o',none⟩ ((cur.toList.drop o').take (m * k')) (by
     intro j u hj
     rw [List.getElem?_take] at hj
     split at hj
     ·rw [List.getElem?_drop] at hj
      rw [Addr.add_lit]
      simp only [World.cell?,b2]
      simpa using hj
     ·cases hj)
    have hl:((cur.toList.drop o').take (m * k')).length=m * k':=by simp;omega
    rw [hl] at this
    exact this
  ·refine ⟨by simp;omega,fun j c u h1 h2=>?_⟩
   rw [List.getElem?_take] at h1 h2
   split at h1
   ·rename_i hj
    rw [if_pos hj,List.getElem?_drop] at h2
    rw [M_] at h1
    obtain ⟨c',hc',rfl⟩:=Option.map_eq_some_iff.1 h1
    rw [List.getElem?_take,if_pos O_,List.getElem?_drop] at hc'
    obtain ⟨c2,u2,r1,r2,r3,r4⟩:=hget j O_
    rw [hc'] at r1;cases r1
    have:cur[o' + j]? = some u:=by simpa using h2
    rw [r2] at this;cases this
    exact r4.bare
   ·cases h1
  ·intro u hu
   obtain ⟨j,hj⟩:=List.getElem?_of_mem hu
   rw [List.getElem?_take] at hj
   split at hj
   ·rename_i hjl
    rw [List.getElem?_drop] at hj
    obtain ⟨c2,u2,r1,r2,r3,r4⟩:=hget j O_
    have:cur[o' + j]? = some u:=by simpa using hj
    rw [r2] at this;cases this
    exact r3
   ·cases hj
  ·intro c hc
   obtain ⟨c',-,rfl⟩:=List.mem_map.1 (List.mem_of_mem_take hc)
   exact PV.bare_own _
 ·rename_i s
  split at hs
  case isFalse=>cases hs
  rename_i hkk
  subst hkk
  cases hs
  obtain ⟨rfl,-⟩:=hx.val_inv
  have hsl:s.data.toList.length=s.size:=by cases s;exact Array.length_toList
  refine ⟨rfl,(s.data.toList.take m).map fun x=>.int .u8 (x.toNat:Int),?_,⟨?_,?_,?_⟩,by rw [List.length_map,hsl,Nat.mul_one]⟩
  ·simp only [Sem.run_bind,hsz,Result.andThen_ok,Builtin.firstCells,Sem.run_pure]
   congr 1
   apply Array.ext'
   simp
  ·refine ⟨S_,fun j c u h1 h2=>?_⟩
   rw [List.getElem?_take] at h1
   split at h1
   ·rename_i hj
    rw [M_] at h1 h2
    obtain ⟨x,hx,rfl⟩:=Option.map_eq_some_iff.1 h1
    rw [List.getElem?_take,if_pos O_,hx] at h2
    simp at h2
    subst h2
    exact .val _ rfl
   ·cases h1
  ·intro u hu
   obtain ⟨x,-,rfl⟩:=List.mem_map.1 hu
   rfl
  ·intro c hc
   obtain ⟨x,-,rfl⟩:=List.mem_map.1 (List.mem_of_mem_take hc)
   rfl
 ·cases hs
theorem Xkc (hT:T=Kf P) (h:RelG Φ0 W M Φ μ ω σ a w) (o:Oper) (hdst:∀d,o.dst=some d→d < M) {t:TypeId} {tl:List TypeId} {x y:Operand} (hop:o.op = .call { callee:=.builtin .copy,args := #[x,y],argTypes:=(t :: tl).toArray }) {ti:TyI} (ht:T.at t=some ti) {E:Eff} (hp:Xjz σ.b ti.kind (pev σ x) (pev σ y)=some E):Does P Φ0 W M a w o (σ.app o.dst E):=by
 unfold Xjz at hp
 split at hp
 case h_2=>cases hp
 rename_i e k by_ zr id off n k' hkd hx
 split at hp
 case h_2=>cases hp
 rename_i bs n2 cs hb hs
 split at hp
 case isFalse=>cases hp
 rename_i hc
 obtain ⟨rfl,hle⟩:=hc
 cases hp
 obtain ⟨hu,i,z,e1,e2,e3,e4,e5,e6,-,-⟩:=Ys (Y9 hT ht) hkd
 have hxr:=h.ev x
 rw [hx] at hxr
 obtain ⟨ad,cap,hxv,c1,c2,c4⟩:=hxr.msl_inv
 obtain ⟨r1,us,r2,r3,r4⟩:=Xfq (P:=P) h (h.ev y) hs e1 e3 (min n2 n) (Nat.min_le_left _ _)
 have hul:us.length=min n2 n * k':=by
  rw [r3.1.1,T_,r4]
  exact Nat.min_eq_left (Nat.mul_le_mul_right _ (Nat.min_le_left _ _))
 have hcl:(cs.take (min n2 n * k')).length=min n2 n * k':=by rw [←r3.1.1,hul]
 have hr2:∀{α:Type} (F:Array Value→Sem α),(do let c ←Builtin.firstCells (←Go.sizeOf e) (min n2 n) (a.eval y);F c:Sem α).run P w=(F us.toArray).run P w:=by
  intro α F
  have:=r2
  simp only [Sem.run_bind] at this ⊢
  rw [Yc e1] at this ⊢
  simp only [Result.andThen_ok] at this ⊢
  rw [this]
  rfl
 have hrun:∀w',(match ad with|some a=>storeCells a us|none=>pure ():Sem Unit).run P w = .ok () w'→(execOp a.eval o).run P w = .ok (.value (.int .i64 (min n2 n:Nat))) w':=by
  intro w' hst
  have hmin:Nat.min n2 n=min n2 n:=rfl
  simp only [execOp,hop,resolve,invoke,builtin,Sem.run_bind,Sem.run_pure,Result.andThen_ok,List.map_toArray,List.map_cons,List.map_nil,Builtin.copy_,List.getElem?_toArray,List.getElem?_cons_zero,List.getElem?_cons_succ,run_underlying hu,hxv,r1,hmin]
  have h2:=r2
  simp only [Sem.run_bind,Yc e1,Result.andThen_ok] at h2
  simp only [Yc e1,Result.andThen_ok,h2]
  cases ad with
  |none=>simp only [Sem.run_pure] at hst;cases hst;simp [goInt]
  |some ad=>simp only at hst;simp only [Sem.run_bind,hst,Result.andThen_ok,Sem.run_pure,goInt]
 rcases Nat.eq_zero_or_pos (min n2 n) with h0|h0
 ·have hus:us = []:=List.eq_nil_of_length_eq_zero (by rw [hul,h0,Nat.zero_mul])
  have hcs:cs.take (min n2 n * k') = []:=by rw [h0];simp
  subst hus
  rw [hcs]
  have hbb:upd σ.b id (some (splF bs off []))=σ.b:=by
   funext q
   simp only [X8]
   split
   ·rename_i e;subst e
    rw [Zh _ _ _ (by simp;rw [h0] at hle;omega)]
    simp [Y5,hb]
   ·rfl
  refine Xav (p:=.val (.int .i64 (min n2 n:Nat))) o h hdst (hrun w ?_) (.val _ rfl) rfl ⟨rfl,rfl⟩ ?_
  ·cases ad<;>simp [storeCells]
  ·simp only [PS.app,List.foldl_cons,List.foldl_nil,hbb]
 ·obtain ⟨g,hg,rfl⟩:=c4 O_
  obtain ⟨w',q1,q2⟩:=h.store (P:=P) hb r3 (off:=off) (by rw [hcl];exact hle) hg
  rw [←Zh bs off _ (by rw [hcl];exact hle)] at q2
  exact Xav (p:=.val (.int .i64 (min n2 n:Nat))) o q2 hdst (hrun w' q1) (.val _ rfl) rfl ⟨rfl,rfl⟩ rfl
theorem RelG.putFull (h:RelG Φ0 W M Φ μ ω σ a w) {d:Nat} (hd:d < M) {n k:Nat} {cs:List PV} {E:TypeId} {ad:Option Addr} (hE:1000000≤E) (hp:Rep Φ μ (.sl n k cs (some E)) (.slice ad n n)):RelG Φ0 W M Φ μ ω (σ.put d (.sl n k cs (some E))) (a.put (some d) (.slice ad n n)) w:=by
 have hd' : d < a.tmps.size:=by rw [h.size];exact hd
 refine { h with defers:=h.defers,size:=by simp [Act.put,h.size],tmps:=fun t=>?_,own:=fun t n' k' cs' E' e=>?_ }
 ·rw [K5 _ _ _ _ hd']
  by_cases ht:t=d
  ·simp only [PS.put,X8,if_pos ht];exact hp
  ·simp only [PS.put,X8,if_neg ht];exact h.tmps t
 ·rw [K5 _ _ _ _ hd']
  by_cases ht:t=d
  ·simp only [PS.put,X8,if_pos ht] at e ⊢
   cases e
   exact .inr (.inr ⟨hE,ad,rfl⟩)
  ·simp only [PS.put,X8,if_neg ht] at e ⊢
   exact h.own t n' k' cs' E' e
theorem Y7i {m l:Nat} {x:Option PV} {vx:Option Value} (hx:RepO Φ μ x vx) {d:Nat} (hp:Yf d m x=some l) (m' : Nat) (hm:m≤m') (code:BoundsCode):(match vx with|some v=>Instr.sliceBound v m' code|none=>pure d:Sem Nat).run P w = .ok l w∧(x.isSome=true→l≤m):=by
 cases x with
 |none=>
  cases vx with
  |none=>simp [Yf] at hp;subst hp;simp
  |some v=>exact hx.elim
 |some p=>
  cases vx with
  |none=>exact hx.elim
  |some v=>have:=X2f (P:=P) (w:=w) hx hp m' hm code;exact ⟨this.1,fun _=>this.2⟩
theorem Xm4 {t:TypeId} {ti:TyI} (ht:tyI P t=some ti) (h:RelG Φ0 W M Φ μ ω σ a w) {q:PV} {v:Value} (hq:Rep Φ μ q v) {x y z:Option PV} {vx vy vz:Option Value} (hx:RepO Φ μ x vx) (hy:RepO Φ μ y vy) (hz:RepO Φ μ z vz) {p:PV} (hp:Y4s ti.kind q x y z=some p) :
  ∃ad n k cs E,p = .sl n k cs (some E)∧1000000≤E∧(Instr.sliceAt t v vx vy vz).run P w = .ok (.slice ad n n) w∧Rep Φ μ p (.slice ad n n):=by
 -- the bounds
 have bounds:∀(n cap l hh:Nat),n≤cap→Yf n n y=some hh→Yf n n z=some hh→Yf 0 hh x=some l→y.isSome=true→z.isSome=true→(Instr.sliceBounds true n cap vx vy vz).run P w = .ok (l,hh,hh) w∧l≤hh∧hh≤n:=by
  intro n cap l hh hn h1 h2 h3 sy sz
  obtain ⟨y,rfl⟩:=Option.isSome_iff_exists.1 sy
  obtain ⟨z,rfl⟩:=Option.isSome_iff_exists.1 sz
  cases vy with
  |none=>exact hy.elim
  |some vy=>
   cases vz with
   |none=>exact hz.elim
   |some vz=>
    have a1:=(X2f (P:=P) (w:=w) (u:=vz) hz h2 cap hn .slice3Acap)
    have hyy:Yf hh hh (some y)=some hh:=by
     unfold Yf at h1 ⊢
     split at h1
     ·rename_i e;cases e
     ·rename_i k i e
      cases e
      split at h1
      ·rename_i hc
       cases h1
       have:0≤i∧i≤((i.toNat:Nat):Int):=⟨hc.1,O_⟩
       simp only [this,and_self,if_true]
      ·cases h1
     ·cases h1
    have a2:=(X2f (P:=P) (w:=w) (u:=vy) hy hyy hh (Nat.le_refl _) .slice3B)
    have a3:=Y7i (P:=P) (w:=w) hx h3 hh (Nat.le_refl _) .slice3C
    have hlh:l≤hh:=by
     cases x with
     |none=>simp [Yf] at h3;omega
     |some x=>exact a3.2 rfl
    refine ⟨?_,hlh,a1.2⟩
    have b3:=a3.1
    cases vx with
    |none=>
     simp only [Sem.run_pure] at b3
     cases b3
     simp [Instr.sliceBounds,a1.1,a2.1]
    |some vx=>
     simp only at b3
     simp [Instr.sliceBounds,a1.1,a2.1,b3]
 unfold Y4s at hp
 split at hp
 ·rename_i e k' by_ zr n k cs own hkd
  split at hp
  case isFalse=>cases hp
  rename_i hkk
  subst hkk
  split at hp
  case h_2=>cases hp
  rename_i hh m hhy hmz
  split at hp
  case h_2=>cases hp
  rename_i l hl
  split at hp
  case isFalse=>cases hp
  rename_i hc
  obtain ⟨sy,sz,rfl⟩:=hc
  cases hp
  obtain ⟨hu,i',z',e1,e2,e3,e4,e5,e6,-,-⟩:=Ys ht hkd
  obtain ⟨ad,b,off,cap,us,rfl,c1,c2,c3,c4,c5,c6⟩:=hq.sl_inv
  obtain ⟨r1,r2,r3⟩:=bounds n cap l m c1 hhy hmz hl sy sz
  refine ⟨if m=l then ad else ad.map (·.add (l * k')),m - l,k',_,e+1000000,rfl,Nat.le_add_left _ _,?_,?_⟩
  ·simp only [Instr.sliceAt,Sem.run_bind,run_underlying hu,Result.andThen_ok,Instr.slice,r1,Yc e1,e3,Sem.run_pure]
  ·by_cases hz0:m - l=0
   ·have:(cs.drop (l * k')).take ((m - l) * k') = []:=by rw [hz0];simp
    rw [this,hz0]
    exact .sl0 _ _ _ _ O_
   ·obtain rfl:=c4 O_
    rw [if_neg O_]
    simp only [Option.map_some,Addr.add_lit]
    have hbig:l * k' + (m - l) * k'≤n * k':=by rw [←Nat.add_mul];exact Nat.mul_le_mul_right _ O_
    refine .sl _ _ _ _ b (off+l * k') _ (fun j=>us (l * k' + j)) ?_ O_ O_ ?_ ?_
    ·rw [T_,L_,c3];omega
    ·intro j hj
     rw [T_,L_,c3] at hj
     rw [Nat.add_assoc]
     exact c5 _ O_
    ·intro j c hc
     rw [List.getElem?_take] at hc
     split at hc
     ·rw [List.getElem?_drop] at hc;exact c6 _ _ hc
     ·cases hc
 ·rename_i e k' by_ zr hkd
  split at hp
  case h_2=>cases hp
  rename_i hh m hhy hmz
  split at hp
  case h_2=>cases hp
  rename_i l hl
  split at hp
  case isFalse=>cases hp
  rename_i hc
  cases hp
  obtain ⟨hu,i',z',e1,e2,e3,e4,e5,e6,-,-⟩:=Ys ht hkd
  obtain rfl:=hq.nilsl_inv
  have h0:∀{y:Option PV} {l:Nat},Yf 0 0 y=some l→l=0:=by
   intro y l hy
   unfold Yf at hy
   split at hy
   ·cases hy;rfl
   ·split at hy
    ·rename_i hc;cases hy;omega
    ·cases hy
   ·cases hy
  obtain rfl:=h0 hhy
  obtain rfl:=h0 hmz
  obtain rfl:=h0 hl
  obtain ⟨r1,r2,r3⟩:=bounds 0 0 0 0 (Nat.le_refl _) hhy hmz hl hc.1 hc.2
  refine ⟨none,0,k',[],e+1000000,rfl,Nat.le_add_left _ _,?_, .sl0 _ _ _ _ (by unfold maxLen;omega)⟩
  simp only [Instr.sliceAt,Sem.run_bind,run_underlying hu,Result.andThen_ok,Instr.slice,r1,Yc e1,e3,Sem.run_pure]
  rfl
 ·cases hp
theorem Xkg (hT:T=Kf P) (h:RelG Φ0 W M Φ μ ω σ a w) {ts td:TypeId} {si di:TyI} (hs:T.at ts=some si) (hd:T.at td=some di) {x:Operand} {v:PV} (hv:Xkx T σ.b si.kind di.kind (pev σ x)=some v) :
  ∃l,v = .val (.string (strI l))∧(convert ts td (a.eval x)).run P w = .ok (.string (strI l)) w:=by
 unfold Xkx at hv
 split at hv
 case h_2=>cases hv
 rename_i id' o' n k hx
 split at hv
 case h_2=>cases hv
 rename_i e kk by_ zr hk1 hk2
 split at hv
 case h_2=>cases hv
 rename_i ei bs he hb
 split at hv
 case h_2=>cases hv
 rename_i hke
 split at hv
 case isFalse=>cases hv
 rename_i hc
 obtain ⟨rfl,hle⟩:=hc
 obtain ⟨l,hl,rfl⟩:=Option.map_eq_some_iff.1 hv
 refine ⟨l,rfl,?_⟩
 have hxr:=h.ev x
 rw [hx] at hxr
 obtain ⟨ad,cap,hxv,c1,c2,c4⟩:=hxr.msl_inv
 obtain ⟨g,cur,Ty,b1,b2,b3,b4,b5,b6,b7⟩:=h.box id' bs hb
 obtain ⟨hu,-⟩:=Ys (Y9 hT hs) hk1
 have hd2:=X1z (Y9 hT hd) hk2
 have he':=X80 (Y9 hT he) hke
 have hcs:=X79 _ _ hl
 have hll:l.length=n:=by
  have:=congrArg List.length hcs
  simp only [List.length_map,T_,L_] at this
  omega
 rw [hxv,run_convert_bytes_string w ts td e ad n cap hu he' hd2]
 by_cases hn:0 < n
 ·obtain ⟨g',hg',rfl⟩:=c4 hn
  rw [b1] at hg'; cases hg'
  rw [run_bytesToString w ⟨g,o',none⟩ n cap l (by
   have:=run_loadCells_list (P:=P) (w:=w) ⟨g,o',none⟩ (l.map (Value.int .u8)) (by
    intro j u hj
    rw [M_] at hj
    obtain ⟨z,hz,rfl⟩:=Option.map_eq_some_iff.1 hj
    have hjl:j < n:=by have:=(List.getElem?_eq_some_iff.1 hz).1;omega
    have hcj:(((bs.drop o').take n).map PV.bare)[j]? = some (.val (.int .u8 z)):=by rw [hcs,M_,hz];rfl
    rw [M_] at hcj
    obtain ⟨c,hc,hcb⟩:=Option.map_eq_some_iff.1 hcj
    rw [List.getElem?_take,if_pos hjl,List.getElem?_drop] at hc
    obtain ⟨u,r1,r2,r3,-⟩:=b7 (o' + j) c hc
    have r4:=r3.bare
    rw [hcb] at r4
    obtain ⟨rfl,-⟩:=r4.val_inv
    rw [Addr.add_lit]
    simp only [World.cell?,b2]
    simpa using r1)
   rw [List.length_map,hll] at this
   first|exact this|simpa using this)]
  rfl
 ·have hn0:n=0:=O_
  have hb0:l = []:=List.eq_nil_of_length_eq_zero O_
  subst hb0
  cases ad with
  |none=>subst hn0;simp [Conv.bytesToString,strI]
  |some ad=>
   rw [run_bytesToString w ad n cap [] (by subst hn0;first|rfl|simp [loadCells,loadCellsFrom])]
   rfl
theorem Xmd (hT:T=Kf P) (h:RelG Φ0 W M Φ μ ω σ a w) (o:Oper) {d:Nat} (hd:o.dst=some d) (hM:d < M) {t:TypeId} {l c:Operand} (hop:o.op = .makeSlice t l c) {ti:TyI} (ht:T.at t=some ti) {e k by_:Nat} {zr out:List PV} (hk:ti.kind = .slice e k by_ zr) {kx ky:IntKind} {x:Int} (hx:pev σ l = .val (.int kx x)) (hy:pev σ c = .val (.int ky x)) (hc:0≤x∧(by_:Int) * x≤281474976710656∧x≤9223372036854775807) (he:e < 1000000) (hout:(List.replicate x.toNat zr).flatten=out) :
  Does P Φ0 W M a w o (σ.put d (.sl x.toNat k out (some e))):=by
 obtain ⟨c1,c3,c4⟩:=hc
 obtain ⟨hu,i,z,e1,e2,e3,e4,e5,e6,e7,e8⟩:=Ys (Y9 hT ht) hk
 subst e8
 have hzr:=X5p (Φ:=Φ) (μ:=μ) (len:=x.toNat) (z:=z.cells) e5 e6 (X1y _) e7 (by intro c hc;obtain ⟨v,-,rfl⟩:=List.mem_map.1 hc;exact X56 v)
 rw [hout] at hzr
 have hcs:((Array.range (x.toNat * k)).map (fun i=>z.cells[i % z.cells.size]!)).size=x.toNat * k:=S_
 have hmax:x.toNat≤maxLen:=by unfold maxLen;omega
 obtain ⟨Φ',ω',h2,-⟩:=h.newOwn (d:=d) hM (N:=x.toNat) (k:=k) (cap:=x.toNat) (L:=out) (cur:=(Array.range (x.toNat * k)).map (fun i=>z.cells[i % z.cells.size]!)) (e:=e) (by rw [←hzr.1.1];simp) (by rw [H_ S_];exact hzr.1) (Nat.le_refl _) hmax hcs he
 refine ⟨_, .slice (some ⟨w.heap.size,0,none⟩) x.toNat x.toNat,w.alloc (.cells ((Array.range (x.toNat * k)).map (fun i=>z.cells[i % z.cells.size]!)) e),?_, .inl rfl,Φ',μ,ω',by rw [hd];exact h2⟩
 have hxr:=h.ev l
 rw [hx] at hxr
 obtain ⟨hxv,-⟩:=hxr.val_inv
 have hyr:=h.ev c
 rw [hy] at hyr
 obtain ⟨hyv,-⟩:=hyr.val_inv
 have w1:IntKind.i64.wrap x=x:=IntWalk.i64_in x ⟨O_,O_⟩
 have n1:¬x < 0:=O_
 have p48:(2:Int) ^ 48=281474976710656:=D_
 have n2:¬((2:Int) ^ 48 < (i.bytes:Int) * x):=by rw [e4,p48];omega
 simp only [execOp,hop,hxv,hyv,Instr.makeSlice,Sem.run_bind,run_underlying hu,Result.andThen_ok,asInt,asIntOf,typeInfo,run_program,e1,Sem.run_pure,w1]
 have n3:¬x > x:=O_
 simp only [n1,decide_false,Bool.false_or,n2,gt_iff_lt,Bool.or_self,Int.lt_irrefl,if_false,Bool.false_eq_true,run_askRoom,Result.andThen_ok,Yc e1,e3,zeroValue,typeInfo,run_program,e1,e2]
 by_cases hz0:x.toNat * k=0
 ·have hr1:(Array.map (fun (_:Nat)=>(default:Value)) (Array.range 0)) = #[]:=S_
  simp [hz0,newRow,Yc e1,e3]
  have hr2:(Array.map (fun i=>z.cells[i % z.cells.size]!) (Array.range 0)) = #[]:=S_
  rw [hr1,hr2]
 ·simp only [hz0,if_false,Sem.run_bind,Yc e1,e3,zeroValue,typeInfo,run_program,Result.andThen_ok,e1,e2,Sem.run_pure,run_askRoom]
  rfl
theorem RelG.newRow (h:RelG Φ0 W M Φ μ ω σ a w) (cur:Array Value) (Ty:TypeId) (fr:Nat×Nat):RelG Φ0 W M (Kt Φ w.heap.size cur) μ ω σ a (w.drew.alloc (.cells cur Ty fr)):=by
 have hd:=h.drew
 refine hd.grow (hd.below.alloc _) (fun b o u e=>?_) (fun b o hb=>?_) (fun b o u e=>?_) (fun g p e=>?_) S_
 ·unfold Kt at e
  split at e
  ·rename_i hb
   subst hb
   have hn:(w.drew.alloc (.cells cur Ty fr)).heap[w.heap.size]? = some (.cells cur Ty fr):=by
    show (w.heap.push (.cells cur Ty fr))[w.heap.size]? = _
    simp
   simp only [World.cell?,hn]
   exact e
  ·have h1:=hd.imm b o u e
   have hlt:=World.block_lt_of_cell? _ _ h1
   have h2:(w.drew.alloc (.cells cur Ty fr)).heap[b]? = w.drew.heap[b]?:=Below.heap_alloc _ _ _ hlt
   simp only [World.cell?] at h1 ⊢
   rw [h2];exact h1
 ·have hlt:b < w.heap.size:=Nat.lt_of_lt_of_le hb.1 h.below.size
  unfold Kt
  rw [if_neg O_]
 ·have hlt:=RelG.fresh h e
  unfold Kt
  rw [if_neg O_];exact e
 ·have hlt:=h.lt g p e
  refine ⟨Below.heap_alloc _ _ _ (by simpa using hlt),fun j=>?_⟩
  unfold Kt
  rw [if_neg O_]
theorem Xqg (hT:T=Kf P) (h:RelG Φ0 W M Φ μ ω σ a w) (o:Oper) {d:Nat} (hd:o.dst=some d) (hM:d < M) {ts td:TypeId} {x:Operand} (hop:o.op = .convert ts td x) {si di:TyI} (hs:T.at ts=some si) (ht:T.at td=some di) {v:PV} (hv:Xy4 T si.kind di.kind (pev σ x)=some v):Does P Φ0 W M a w o (σ.put d v):=by
 unfold Xy4 at hv
 split at hv
 case h_2=>cases hv
 rename_i s hx
 split at hv
 case h_2=>cases hv
 rename_i e k by_ zr hk1 hk2
 split at hv
 case h_2=>cases hv
 rename_i ei he
 split at hv
 case h_2=>cases hv
 rename_i hke
 split at hv
 case isFalse=>cases hv
 rename_i hsz
 cases hv
 have hxr:=h.ev x
 rw [hx] at hxr
 obtain ⟨hxv,-⟩:=hxr.val_inv
 obtain ⟨hu,-⟩:=Ys (Y9 hT ht) hk2
 have hs2:=X1z (Y9 hT hs) hk1
 have he':=X80 (Y9 hT he) hke
 have hrun:=run_bytes_of_string w ts td e s hs2 hu he'
 have hl:(strC s).length=s.size:=by rw [strC,List.length_map,Array.length_toList];rfl
 have hcap:=grownCap_ge w s.size 0 e
 have hcap2:=grownCap_le_maxLen w s.size 0 e (by unfold maxLen;omega)
 have h1:=h.newRow (bytesRow s (grownCap w s.size 0 e)) e ((bytesRow s (grownCap w s.size 0 e)).size,(bytesRow s (grownCap w s.size 0 e)).size+1)
 have hrep:Rep (Kt Φ w.heap.size (bytesRow s (grownCap w s.size 0 e))) μ (.sl s.size 1 (strC s) none) (.slice (some ⟨w.heap.size,0,none⟩) s.size (grownCap w s.size 0 e)):=by
  refine .sl s.size 1 (strC s) none w.heap.size 0 _ (fun j=>.int .u8 ((s.data.toList.getD j 0).toNat:Int)) (by rw [hl,Nat.mul_one]) hcap hcap2 (fun j hj=>?_) (fun j c hc=>?_)
  ·rw [hl] at hj
   have hj' : j < s.data.size:=hj
   unfold Kt
   rw [if_pos rfl,Nat.zero_add,bytesRow,Array.getElem?_append_left (by simpa using hj')]
   rw [Array.getElem?_map,Array.getElem?_eq_getElem hj',Option.map_some,G_,Array.getElem?_toList,Array.getElem?_eq_getElem hj']
   rfl
  ·simp only [strC,M_] at hc
   obtain ⟨b,hb,rfl⟩:=Option.map_eq_some_iff.1 hc
   have:s.data.toList.getD j 0=b:=by rw [G_,hb];rfl
   rw [this]
   exact .val _ rfl
 have h2:=h1.put hM hrep rfl
 refine ⟨_,_,_,?_, .inl rfl,_,μ,ω,by rw [hd];exact h2⟩
 simp only [execOp,hop,hxv,Sem.run_bind,hrun,Result.andThen_ok,Sem.run_pure]
theorem Xjc (hT:T=Kf P) (h:RelG Φ0 W M Φ μ ω σ a w) (o:Oper) {d:Nat} (hd:o.dst=some d) (hM:d < M) {t:TypeId} {x:Operand} (hop:o.op = .slice t x none none none) {ti:TyI} (ht:T.at t=some ti) {n k:Nat} {e:TypeId} {ag:Bool} (hk:ti.kind = .arr n e k ag) {cs:List PV} (hx:pev σ x = .ep cs 0) (hl:cs.length=n * k) (hn:0 < n∧n≤1000000000):Does P Φ0 W M a w o (σ.put d (.sl n k cs (some (e+1000000)))):=by
 have hv:=h.ev x
 rw [hx] at hv
 obtain ⟨b,o',us,hvv,hp,hr⟩:=hv.ep_inv
 obtain ⟨hu,i',d',e1,e2,e3,e4⟩:=X51 (Y9 hT ht) hk
 obtain ⟨r1,r2,r3⟩:=X04 (P:=P) (w:=w) (Φ:=Φ) (μ:=μ) (isS:=false) (x:=none) (y:=none) (vx:=none) (vy:=none) trivial trivial (Nat.le_refl n) (show Yf n n none=some n by simp [Yf]) (show Yf 0 n none=some 0 by simp [Yf])
 have hm:n≤maxLen:=by unfold maxLen;omega
 have hrep:Rep Φ μ (.sl n k cs (some (e+1000000))) (.slice (some ⟨b,o',none⟩) n n):=.sl n k cs _ b o' n us hl (Nat.le_refl _) hm hp hr
 refine ⟨_, .slice (some ⟨b,o',none⟩) n n,w,?_, .inl rfl,Φ,μ,ω,by rw [hd];exact h.putFull hM (Nat.le_add_left _ _) hrep⟩
 simp only [execOp,hop,hvv,Instr.sliceAt,Sem.run_bind,Option.map_none,run_underlying hu,Result.andThen_ok,Instr.sureAddr,r1,Yc e1,e2,Sem.run_pure,Nat.add_zero]
 simp [Addr.add_lit]
theorem Xlj (hT:T=Kf P) (h:RelG Φ0 W M Φ μ ω σ a w) (o:Oper) {hd:Bool} {id:Nat} (hidl:id < 1000000) {E:Eff} (hp:Zf T hd id σ o.op=some E) (hdst:∀d,o.dst=some d→d < M) (hkind:(Xx7 o.op=true→o.dst=none)∧(Xby o.op=true→o.dst.isSome=true)) :
  Does P Φ0 W M a w o (σ.app o.dst E):=by
 obtain ⟨dst,op,ty,pos,after,guard⟩:=o
 simp only at hp hdst hkind
 unfold Zf at hp
 split at hp
 ·rename_i t r
  obtain ⟨d,rfl⟩:=Option.isSome_iff_exists.1 (hkind.2 rfl)
  split at hp
  case h_2=>cases hp
  rename_i hb hm
  cases hp
  have h1:=h.newMap hidl hb hm (.map [] 0) (.map #[] 0) ⟨rfl,rfl⟩
  have h2:=h1.put (d:=d) (hdst d rfl) (p:=.mref id) (.mref id w.heap.size (by simp [X8])) rfl
  refine ⟨_, .map (some w.heap.size),w.alloc (.map #[] 0),?_, .inl rfl,Φ,_,_,h2⟩
  simp [execOp,Instr.makeMap]
 ·rename_i t x
  obtain ⟨d,rfl⟩:=Option.isSome_iff_exists.1 (hkind.2 rfl)
  split at hp
  case h_2=>cases hp
  rename_i ti mid es clock ht hmo hb hm
  split at hp
  case h_2=>cases hp
  rename_i kt et hkd
  cases hp
  obtain ⟨hx,hmm⟩:=X12 hmo
  have hxr:=h.ev x
  rw [hx] at hxr
  obtain ⟨g,hg,hxv⟩:=hxr.mref_inv
  have hu:=X2s (Y9 hT ht) hkd
  obtain ⟨g',k1,k2,k3,k4,hst,ents,k5,k6,k7⟩:=h.map _ _ hmm
  rw [hg] at k1;cases k1
  have h1:=h.newMap hidl hb hm (.iter mid clock [] clock) (.mapIter (some g) clock #[] clock) ⟨g,hg,rfl⟩
  have h2:=h1.put (d:=d) (hdst d rfl) (p:=.ptr id 0) (.ptr id 0 w.heap.size (by simp [X8])) rfl
  refine ⟨_, .pointer (some ⟨w.heap.size,0,none⟩),w.alloc (.mapIter (some g) clock #[] clock),?_, .inl rfl,Φ,_,_,h2⟩
  simp [execOp,Instr.range,run_underlying hu,hxv,(Go.run_getObj_map (P:=P) (w:=w) _ _ _ k5)]
 ·rename_i t x k v
  exact Xeo hT h _ (.inl rfl) (hkind.1 rfl) hp
 ·rename_i t x k v
  exact Xeo hT h _ (.inr rfl) (hkind.1 rfl) hp
 ·rename_i t x k ok
  obtain ⟨d,rfl⟩:=Option.isSome_iff_exists.1 (hkind.2 rfl)
  split at hp
  ·rename_i hc
   obtain ⟨-,rfl⟩:=hc
   exact Xld hT h _ rfl (hdst d rfl) rfl hp
  ·cases hp
 ·rename_i t x lo hi mx
  obtain ⟨d,rfl⟩:=Option.isSome_iff_exists.1 (hkind.2 rfl)
  split at hp
  case h_3=>cases hp
  case h_2=>
   rename_i ti ht
   obtain ⟨v,hv,rfl⟩:=Option.map_eq_some_iff.1 hp
   unfold parr at hv
   split at hv
   case h_2=>cases hv
   rename_i n e k ag cs hk hx hlo hhi
   split at hv
   case isFalse=>cases hv
   rename_i hc
   cases hv
   cases lo with
   |some y=>cases hlo
   |none=>
    cases hi with
    |some y=>cases hhi
    |none=>exact Xjc hT h _ rfl (hdst d rfl) rfl ht hk hx hc.1 hc.2
  rename_i ti m ht
  obtain ⟨v,hv,rfl⟩:=Option.map_eq_some_iff.1 hp
  have ho:∀y:Option Operand,RepO Φ μ (y.map (pev σ)) (y.map a.eval):=by
   intro y
   cases y with
   |none=>trivial
   |some y=>exact h.ev y
  obtain ⟨ad,n,k,cs,E,rfl,r0,r1,r2⟩:=Xm4 (P:=P) (Y9 hT ht) h (h.ev x) (ho lo) (ho hi) (ho (some m)) hv
  refine ⟨_, .slice ad n n,w,?_, .inl rfl,Φ,μ,ω,h.putFull (hdst d rfl) r0 r2⟩
  simp only [execOp,Sem.run_bind]
  simp only [Option.map_some] at r1 ⊢
  rw [r1]
  rfl
 ·rename_i s d x
  obtain ⟨dd,rfl⟩:=Option.isSome_iff_exists.1 (hkind.2 rfl)
  split at hp
  case isFalse=>
   split at hp
   case h_2=>cases hp
   rename_i si di hs hd'
   obtain ⟨v,hv,rfl⟩:=Option.map_eq_some_iff.1 hp
   exact Xqg hT h _ rfl (hdst dd rfl) rfl hs hd' hv
  split at hp
  case h_2=>cases hp
  rename_i si di hs hd'
  obtain ⟨v,hv,rfl⟩:=Option.map_eq_some_iff.1 hp
  obtain ⟨l,rfl,hrun⟩:=Xkg hT h hs hd' hv
  refine Xav (p:=.val (.string (strI l))) _ h hdst (v:=.string (strI l)) ?_ (.val _ rfl) rfl ⟨rfl,rfl⟩ rfl
  simp only [execOp,Sem.run_bind,hrun,Result.andThen_ok,Sem.run_pure]
 ·rename_i t l c
  obtain ⟨dd,rfl⟩:=Option.isSome_iff_exists.1 (hkind.2 rfl)
  split at hp
  case h_2=>cases hp
  rename_i ti ht
  obtain ⟨v,hv,rfl⟩:=Option.map_eq_some_iff.1 hp
  unfold Xt3 at hv
  split at hv
  case h_2=>cases hv
  rename_i e k by_ zr kx x ky y hk hx hy
  split at hv
  case isFalse=>cases hv
  rename_i hc
  obtain ⟨rfl,c1,c2,c3,c4⟩:=hc
  cases hv
  exact Xmd hT h _ rfl (hdst dd rfl) rfl ht hk hx hy ⟨c1,c2,c3⟩ c4 rfl
 ·rename_i c
  obtain ⟨callee,args,argTypes⟩:=c
  simp only at hp
  split at hp
  ·split at hp
   case h_2=>cases hp
   rename_i x k t tl ea et
   obtain rfl:args = #[x,k]:=by rw [←Array.toArray_toList (xs:=args),ea]
   obtain rfl:argTypes=(t :: tl).toArray:=by rw [←Array.toArray_toList (xs:=argTypes),et]
   exact Xom hT h _ hdst rfl hp
  ·split at hp
   case h_2=>cases hp
   rename_i x y t tl ea et
   obtain rfl:args = #[x,y]:=by rw [←Array.toArray_toList (xs:=args),ea]
   obtain rfl:argTypes=(t :: tl).toArray:=by rw [←Array.toArray_toList (xs:=argTypes),et]
   split at hp
   ·rename_i ti ht
    exact Xkc hT h _ hdst rfl ht hp
   ·cases hp
  ·cases hp
 ·cases hp
end
section
open Go.RowKit
def Xsp:List (Nat×Nat) := [(51,3),(42,2)]
def Xu3 (f:Nat):List (Nat×Nat)→Option Nat
 | []=>none
 |x :: r=>if Nat.beq x.1 f then some x.2 else Xu3 f r
def Xbh (f:Nat) (l:List Operand):Option Nat:=match Xu3 f Xsp with
 |some p=>match l[p]? with
  |some (.tmp t)=>some t
  |_=>none
 |none=>none
def X1j (xs:List Operand):List Nat:=xs.filterMap fun | .tmp t=>some t|_=>none
def Kr (hd:Bool) (o:Oper):List Nat:=match o.op with
 | .assign (.tmp s) => [s]
 | .move (.tmp s)=>if hd then [s] else []
 | .store _ _ (.tmp s) => [s]
 | .mapUpdate _ _ _ (.tmp s) => [s]
 | .insert _ _ _ (.tmp s) => [s]
 | .call c=>match c.callee,c.args.toList with
  | .builtin .append, .tmp s :: _ => [s]
  | .value (.func f),l=>match Xbh f l with|some s => [s]|none => []
  |_,_ => []
 |_ => []
def Y39:List Nat := [10,14,16,24,26,29,30,33,35,36,37,42,43,46,51,54,55,58,78,80,82,91,94,96,99,102,103,104,105,119,130]
def X0w:Op→Bool
 | .call c=>match c.callee with
  | .value (.func f)=>Y39.contains f
  |_=>false
 |_=>false
def Y2x:List Nat := [18,20,21,28,34,40,41,45,52,57,59,60,61,66,83,92,93]
def Xdn:Op→Bool
 | .call c=>match c.callee with
  | .value (.func f)=>Y2x.contains f
  | .value (.tmp _)=>true
  |_=>false
 |_=>false
def Xxm:Op→Bool
 | .call c=>match c.callee with
  | .builtin .copy=>true
  |_=>false
 |_=>false
def Kb (hd:Bool) (o:Oper):Bool:=match o.op with | .store .. => true | .load .. => hd|op=>X0w op || Xxm op || Xdn op
def X0t (o:Oper):Bool:=match o.op with | .store .. => true|op=>X0w op || Xxm op
def X0i (o:Oper):Bool:=match o.op with | .store .. => true | .load .. => true | .convert _ d _=>Nat.beq d strT|op=>X0w op || Xxm op || Xdn op
def mapW (hd:Bool) (o:Oper):Bool:=match o.op with
 | .mapUpdate .. | .insert .. | .next .. => true
 | .lookup .. => hd
 | .call c=>match c.callee with
  | .builtin .delete=>true
  |_=>X0w o.op
 |_=>false
def mapU (o:Oper):Bool:=match o.op with
 | .mapUpdate .. | .insert .. | .next .. | .lookup .. | .entry .. | .range .. => true
 | .call c=>match c.callee with
  | .builtin .delete | .builtin .len=>true
  |_=>X0w o.op || Xdn o.op
 |_=>false
theorem Y68 {hd:Bool} {o:Oper} (h:mapW hd o=true):mapU o=true:=by
 unfold mapW at h
 unfold mapU
 cases hop:o.op with
 |call c=>
  obtain ⟨callee,args,ct⟩:=c
  rw [hop] at h
  cases callee with
  |builtin b=>cases b<;>simp_all
  |_=>simp only [Bool.or_eq_true];exact .inl h
 |_=>simp_all
end
section
open Go.RowKit
variable {P:Program} {T:Tab} {σ:PS} {ops:Array Oper} {base:Nat}
theorem Xq4 {hd:Bool} {id:Nat} {o:Oper} {E:Eff} (h:presE T hd id σ o.op=some E):(∀s,E.dis=some s→s∈Kr hd o)∧(∀i cs,(i,cs)∈E.bx→i=id∨(Kb hd o=true∧∃bs,σ.b i=some bs)):=by
 obtain ⟨dst,op,ty,pos,after,guard⟩:=o
 simp only at h
 have plain:∀p,E=⟨p,[],none,[]⟩→(∀s,E.dis=some s→s∈Kr hd ⟨dst,op,ty,pos,after,guard⟩)∧(∀i cs,(i,cs)∈E.bx→i=id∨(Kb hd ⟨dst,op,ty,pos,after,guard⟩=true∧∃bs,σ.b i=some bs)):=by
  intro p e
  subst e
  exact ⟨fun s e=>(by cases e),fun i cs e=>(by cases e)⟩
 have hother:∀op',((V5 T σ op').map fun v=>(⟨v,[],none,[]⟩:Eff))=some E→∃p,E=⟨p,[],none,[]⟩:=by
  intro op' e
  obtain ⟨p,hp,rfl⟩:=Option.map_eq_some_iff.1 e
  exact ⟨p,rfl⟩
 have htake:∀x,X75 σ x=E→(∃p,E=⟨p,[],none,[]⟩)∨∃s p,x = .tmp s∧E=⟨p,[],some s,[]⟩:=by
  intro x e
  cases x with
  |tmp s=>
   simp only [X75] at e
   split at e
   ·exact .inr ⟨s,_,rfl,e.symm⟩
   ·exact .inl ⟨_,e.symm⟩
  |_=>exact .inl ⟨_,e.symm⟩
 unfold presE at h
 split at h
 ·rename_i x
  simp only [Option.some.injEq] at h
  rcases htake x h with ⟨p,rfl⟩|⟨s,p,rfl,rfl⟩
  ·exact plain p rfl
  ·exact ⟨fun s' e=>(by simp at e;subst e;simp [Kr]),fun i cs e=>(by cases e)⟩
 ·rename_i x
  split at h
  ·rename_i hhd
   simp only [Option.some.injEq] at h
   rcases htake x h with ⟨p,rfl⟩|⟨s,p,rfl,rfl⟩
   ·exact plain p rfl
   ·exact ⟨fun s' e=>(by simp at e;subst e;simp [Kr,hhd]),fun i cs e=>(by cases e)⟩
  ·simp only [Option.some.injEq] at h
   exact plain _ h.symm
 ·split at h
  ·simp only [Option.some.injEq] at h
   subst h
   exact ⟨fun s e=>(by cases e),fun i cs e=>(by simp at e;exact .inl e.1)⟩
  ·cases h
 ·split at h
  ·simp only [Option.some.injEq] at h
   subst h
   exact ⟨fun s e=>(by cases e),fun i cs e=>(by simp at e;exact .inl e.1)⟩
  ·cases h
 ·rename_i t x y
  split at h
  ·rename_i j off hx
   split at h
   ·rename_i hown
    split at h
    ·rename_i bs ti hb ht
     split at h
     ·simp only [Option.some.injEq] at h
      subst h
      refine ⟨fun s e=>?_,fun i cs e=>?_⟩
      ·cases y with
       |tmp s0=>simp [X3u] at e;subst e;simp [Kr]
       |_=>simp [X3u] at e
      ·simp at e
       obtain ⟨rfl,-⟩:=e
       exact .inr ⟨rfl,bs,hb⟩
     ·cases h
    ·cases h
   ·split at h
    ·rename_i bs ti new hb ht hn
     split at h
     ·simp only [Option.some.injEq] at h
      subst h
      refine ⟨fun s e=>(by cases e),fun i cs e=>?_⟩
      simp at e
      obtain ⟨rfl,-⟩:=e
      exact .inr ⟨rfl,bs,hb⟩
     ·cases h
    ·cases h
  ·cases h
 ·rename_i t x
  split at h
  ·rename_i E' hE
   simp only [Option.some.injEq] at h
   subst h
   unfold X0u at hE
   split at hE
   ·rename_i j off hx
    split at hE
    ·rename_i hhd
     split at hE
     ·rename_i bs hb
      split at hE
      ·split at hE
       ·split at hE
        ·simp only [Option.some.injEq] at hE
         subst hE
         refine ⟨fun s e=>(by cases e),fun i cs e=>?_⟩
         simp at e
         obtain ⟨rfl,-⟩:=e
         exact .inr ⟨by simp [Kb,hhd],bs,hb⟩
        ·cases hE
       ·cases hE
      ·cases hE
     ·cases hE
    ·cases hE
   ·cases hE
  ·obtain ⟨p,rfl⟩:=hother _ h
   exact plain p rfl
 ·split at h
  ·split at h
   ·split at h
    ·obtain ⟨cs,-,rfl⟩:=Option.map_eq_some_iff.1 h
     exact plain _ rfl
    ·cases h
   ·cases h
  ·cases h
 ·split at h
  ·split at h
   ·split at h
    ·simp only [Option.some.injEq] at h
     subst h
     exact ⟨fun s e=>(by cases e),fun i cs e=>(by simp at e;exact .inl e.1)⟩
    ·cases h
   ·cases h
  ·cases h
 ·rename_i c
  obtain ⟨callee,args,argTypes⟩:=c
  simp only at h
  split at h
  ·split at h
   ·rename_i s x t t' ea et
    split at h
    ·split at h
     ·split at h
      ·unfold pappend at h
       split at h
       ·split at h
        ·simp only [Option.some.injEq] at h
         subst h
         refine ⟨fun s' e=>?_,fun i cs e=>(by cases e)⟩
         cases s with
         |tmp s0=>simp [X3u] at e;subst e;simp [Kr,ea]
         |_=>simp [X3u] at e
        ·cases h
       ·cases h
      ·cases h
     ·cases h
    ·cases h
   ·cases h
  ·obtain ⟨p,rfl⟩:=hother _ h
   exact plain p rfl
 ·obtain ⟨p,rfl⟩:=hother _ h
  exact plain p rfl
theorem Xyu {bs:List PV} {off n k:Nat} {cs:List PV} {E:Option TypeId} (h:bs[off]? = some (.sl n k cs E)):(bs.set off (.sl n k cs none)).map PV.bare=bs.map PV.bare:=by
 apply List.ext_getElem?
 intro j
 rw [M_,M_,List.getElem?_set]
 by_cases hj:off=j
 ·subst hj
  rw [if_pos rfl,h]
  have:=(List.getElem?_eq_some_iff.1 h).1
  rw [if_pos this]
  rfl
 ·rw [if_neg hj]
theorem Xkd {hd:Bool} {id:Nat} {o:Oper} {E:Eff} (h:presE T hd id σ o.op=some E) (hs:Kb hd o=true) (hn:X0t o=false):∀i cs,(i,cs)∈E.bx→E.bx = [(i,cs)]∧∃bs,σ.b i=some bs∧cs.map PV.bare=bs.map PV.bare:=by
 obtain ⟨dst,op,ty,pos,after,guard⟩:=o
 cases op<;>simp_all [Kb,X0t,X0w,Xxm,Xdn]
 rotate_left
 ·rename_i c
  obtain ⟨callee,args,argTypes⟩:=c
  cases callee with
  |value x=>
   simp only [presE] at h
   obtain ⟨p,hp,rfl⟩:=Option.map_eq_some_iff.1 h
   intro i cs e
   cases e
  |_=>simp_all
 rename_i t x
 simp only [presE] at h
 split at h
 ·rename_i E' hE
  simp only [Option.some.injEq] at h
  subst h
  unfold X0u at hE
  split at hE
  ·rename_i j off hx
   split at hE
   ·split at hE
    ·rename_i bs hb
     split at hE
     ·rename_i n k cs E1 hc
      split at hE
      ·split at hE
       ·simp only [Option.some.injEq] at hE
        subst hE
        intro i cs' e
        simp only [List.mem_singleton,Prod.mk.injEq] at e
        obtain ⟨rfl,rfl⟩:=e
        exact ⟨rfl,bs,hb,Xyu hc⟩
       ·cases hE
      ·cases hE
     ·cases hE
    ·cases hE
   ·cases hE
  ·cases hE
 ·obtain ⟨p,hp,rfl⟩:=Option.map_eq_some_iff.1 h
  intro i cs' e
  cases e
theorem Xeh {m m' : Nat→Option PMap} (hm:∀i X,m i=some X→m' i=some X) {x:PV} {es:List (Nat×PV×PV)} (h:Xgs m x=some es):Xgs m' x=some es:=by
 unfold Xgs at h ⊢
 split at h
 ·split at h
  ·rename_i hx;rw [hm _ _ hx];exact h
  ·cases h
 ·exact h
 ·cases h
theorem Xfo {m m' : Nat→Option PMap} (hm:∀i X,m i=some X→m' i=some X) {x:PV} {r:PV×PV} (h:X4n m x=some r):X4n m' x=some r:=by
 unfold X4n at h ⊢
 split at h
 ·split at h
  ·rename_i hx
   rw [hm _ _ hx]
   simp only
   split at h
   ·rename_i hy;rw [hm _ _ hy];exact h
   ·cases h
  ·cases h
 ·cases h
theorem Xk7 {m m' : Nat→Option PMap} (hm:∀i X,m i=some X→m' i=some X) {td:TD} {x k:PV} {r:PV×Bool} (h:X71 T m td x k=some r):X71 T m' td x k=some r:=by
 unfold X71 at h ⊢
 split at h
 ·split at h
  ·rename_i h1 h2 h3
   rw [h1,h2,Xeh hm h3];exact h
  ·cases h
 ·cases h
theorem X6a {m m' : Nat→Option PMap} (hm:∀i X,m i=some X→m' i=some X) {x:PV} {r:Nat×List (Nat×PV×PV)×Nat} (h:X7f m x=some r):X7f m' x=some r:=by
 unfold X7f at h ⊢
 split at h
 ·split at h
  ·rename_i hx;rw [hm _ _ hx];exact h
  ·cases h
 ·cases h
theorem Xxs {hd:Bool} {id:Nat} {op:Op} {E:Eff} (h:presE T hd id σ op=some E):E.mx = []:=by
 have hother:∀op',((V5 T σ op').map fun v=>(⟨v,[],none,[]⟩:Eff))=some E→E.mx = []:=by
  intro op' e
  obtain ⟨p,hp,rfl⟩:=Option.map_eq_some_iff.1 e
  rfl
 have htake:∀x,(X75 σ x).mx = []:=by
  intro x
  cases x<;>first|rfl|(simp only [X75];split<;>rfl)
 have hload:∀(t:TypeId) q E',X0u T hd σ.b t q=some E'→E'.mx = []:=by
  intro t q E' e
  unfold X0u at e
  repeat' split at e
  all_goals first|(cases e;rfl)|cases e
 have happ:∀e k b p q s E',pappend e k b p q s=some E'→E'.mx = []:=by
  intro e k b p q s E' h
  unfold pappend at h
  repeat' split at h
  all_goals first|(cases h;rfl)|cases h
 unfold presE at h
 split at h
 ·cases h;exact htake _
 ·split at h
  ·cases h;exact htake _
  ·cases h;rfl
 ·repeat' split at h
  all_goals first|(cases h;rfl)|cases h
 ·repeat' split at h
  all_goals first|(cases h;rfl)|cases h
 ·repeat' split at h
  all_goals first|(cases h;rfl)|cases h
 ·split at h
  ·rename_i E' hE;cases h;exact hload _ _ _ hE
  ·exact hother _ h
 ·repeat' split at h
  all_goals first|(obtain ⟨cs,-,rfl⟩:=Option.map_eq_some_iff.1 h;rfl)|cases h
 ·repeat' split at h
  all_goals first|(cases h;rfl)|cases h
 ·rename_i c
  obtain ⟨callee,args,argTypes⟩:=c
  simp only at h
  split at h
  ·repeat' split at h
   all_goals first|exact happ _ _ _ _ _ _ _ h|cases h
  ·exact hother _ h
 ·exact hother _ h
theorem Xih {t:TypeId} {x k v:Operand} {E:Eff} (h:pput T σ t x k v=some E):(∀s,E.dis=some s→v = .tmp s)∧E.bx = []∧∀i X,(i,X)∈E.mx→∃Y,σ.m i=some Y:=by
 unfold pput at h
 split at h
 case h_2=>cases h
 split at h
 case h_2=>cases h
 split at h
 case h_2=>cases h
 rename_i ki id es clock kv hki hmo hkv
 obtain ⟨X,hX,rfl⟩:=Option.map_eq_some_iff.1 h
 refine ⟨fun s e=>?_,rfl,fun i Y e=>?_⟩
 ·simp only [X4q] at e
  split at e
  ·cases v<;>simp [X3u] at e
   subst e;rfl
  ·cases e
 ·simp at e
  obtain ⟨rfl,-⟩:=e
  exact ⟨_,(X12 hmo).2⟩
theorem Xul {t:TypeId} {x k:Operand} {E:Eff} (h:pdel T σ t x k=some E):E.dis=none∧E.bx = []∧∀i X,(i,X)∈E.mx→∃Y,σ.m i=some Y:=by
 unfold pdel at h
 split at h
 case h_2=>cases h
 split at h
 case h_2=>cases h
 split at h
 case h_2=>cases h
 rename_i ki id es clock kv hki hmo hkv
 obtain ⟨X,hX,rfl⟩:=Option.map_eq_some_iff.1 h
 refine ⟨rfl,rfl,fun i Y e=>?_⟩
 simp at e
 obtain ⟨rfl,-⟩:=e
 exact ⟨_,(X12 hmo).2⟩
theorem Xoo {t:TypeId} {x k:Operand} {E:Eff} (h:Xgu T σ t x k=some E):E.dis=none∧E.bx = []∧∀i X,(i,X)∈E.mx→∃Y,σ.m i=some Y:=by
 unfold Xgu at h
 split at h
 case h_2=>cases h
 split at h
 case h_2=>cases h
 split at h
 case h_2=>cases h
 rename_i ki id es clock kv hki hmo hkv
 split at h
 case isFalse=>cases h
 split at h
 case h_2=>cases h
 split at h
 case h_2=>cases h
 split at h
 case h_2=>cases h
 cases h
 refine ⟨rfl,rfl,fun i Y e=>?_⟩
 simp at e
 obtain ⟨rfl,-⟩:=e
 exact ⟨_,(X12 hmo).2⟩
theorem Xo9 {td:TD} {x y:PV} {E:Eff} (h:Xjz σ.b td x y=some E):E.dis=none∧E.mx = []∧∀i cs,(i,cs)∈E.bx→∃bs,σ.b i=some bs:=by
 unfold Xjz at h
 split at h
 case h_2=>cases h
 split at h
 case h_2=>cases h
 rename_i bs n2 cs hb hs
 split at h
 case isFalse=>cases h
 cases h
 refine ⟨rfl,rfl,fun i c e=>?_⟩
 simp at e
 obtain ⟨rfl,-⟩:=e
 exact ⟨bs,hb⟩
theorem Xeq {hd:Bool} {id:Nat} {o:Oper} {E:Eff} (h:Zf T hd id σ o.op=some E):(∀s,E.dis=some s→s∈Kr hd o)∧(∀i cs,(i,cs)∈E.bx→Kb hd o=true∧X0t o=true∧∃bs,σ.b i=some bs)∧(∀i X,(i,X)∈E.mx→i=id∨(mapW hd o=true∧∃Y,σ.m i=some Y)):=by
 obtain ⟨dst,op,ty,pos,after,guard⟩:=o
 simp only at h
 unfold Zf at h
 split at h
 ·split at h
  ·cases h
   exact ⟨fun s e=>(by cases e),fun i cs e=>(by cases e),fun i X e=>(by simp at e;exact .inl e.1)⟩
  ·cases h
 ·split at h
  case h_2=>cases h
  split at h
  case h_2=>cases h
  cases h
  exact ⟨fun s e=>(by cases e),fun i cs e=>(by cases e),fun i X e=>(by simp at e;exact .inl e.1)⟩
 ·obtain ⟨h1,h2,h3⟩:=Xih h
  exact ⟨fun s e=>by rw [h1 s e];simp [Kr],fun i cs e=>(by rw [h2] at e;cases e),fun i X e=>.inr ⟨rfl,h3 i X e⟩⟩
 ·obtain ⟨h1,h2,h3⟩:=Xih h
  exact ⟨fun s e=>by rw [h1 s e];simp [Kr],fun i cs e=>(by rw [h2] at e;cases e),fun i X e=>.inr ⟨rfl,h3 i X e⟩⟩
 ·split at h
  ·rename_i hc
   obtain ⟨h1,h2,h3⟩:=Xoo h
   exact ⟨fun s e=>(by rw [h1] at e;cases e),fun i cs e=>(by rw [h2] at e;cases e),fun i X e=>.inr ⟨by simpa [mapW] using hc.1,h3 i X e⟩⟩
  ·cases h
 ·split at h
  case h_3=>cases h
  all_goals
   obtain ⟨v,hv,rfl⟩:=Option.map_eq_some_iff.1 h
   exact ⟨fun s e=>(by cases e),fun i cs e=>(by cases e),fun i X e=>(by cases e)⟩
 ·split at h
  case isFalse=>
   split at h
   case h_2=>cases h
   obtain ⟨v,hv,rfl⟩:=Option.map_eq_some_iff.1 h
   exact ⟨fun s e=>(by cases e),fun i cs e=>(by cases e),fun i X e=>(by cases e)⟩
  split at h
  case h_2=>cases h
  obtain ⟨v,hv,rfl⟩:=Option.map_eq_some_iff.1 h
  exact ⟨fun s e=>(by cases e),fun i cs e=>(by cases e),fun i X e=>(by cases e)⟩
 ·split at h
  case h_2=>cases h
  obtain ⟨v,hv,rfl⟩:=Option.map_eq_some_iff.1 h
  exact ⟨fun s e=>(by cases e),fun i cs e=>(by cases e),fun i X e=>(by cases e)⟩
 ·rename_i c
  obtain ⟨callee,args,argTypes⟩:=c
  simp only at h
  split at h
  ·split at h
   case h_2=>cases h
   obtain ⟨h1,h2,h3⟩:=Xul h
   exact ⟨fun s e=>(by rw [h1] at e;cases e),fun i cs e=>(by rw [h2] at e;cases e),fun i X e=>.inr ⟨rfl,h3 i X e⟩⟩
  ·split at h
   case h_2=>cases h
   split at h
   case h_2=>cases h
   obtain ⟨h1,h2,h3⟩:=Xo9 h
   exact ⟨fun s e=>(by rw [h1] at e;cases e),fun i cs e=>⟨rfl,rfl,h3 i cs e⟩,fun i X e=>(by rw [h2] at e;cases e)⟩
  ·cases h
 ·cases h
theorem Xhl {b b' : Nat→Option (List PV)} (hbm:∀i bs,b i=some bs→b' i=some bs) {k:Nat} {x:PV} {r:Nat×List PV} (h2:X36 b k x=some r):X36 b' k x=some r:=by
 unfold X36 at h2 ⊢
 split at h2
 ·exact h2
 ·exact h2
 ·split at h2
  ·rename_i hk
   rw [if_pos hk]
   split at h2
   ·rename_i bs2 hb2
    rw [hbm _ _ hb2];exact h2
   ·cases h2
  ·cases h2
 ·exact h2
 ·cases h2
theorem Xb3 {m m' : Nat→Option PMap} (hm:∀i X,m i=some X→m' i=some X) {σ' : PS} {t:TypeId} {x k:Operand} (h1:pev σ' x=pev σ x) (h2:pev σ' k=pev σ k) (hσ:σ.m=m) (hσ' : σ'.m=m') {E:Eff} : (pdel T σ t x k=some E→pdel T σ' t x k=some E)∧(Xgu T σ t x k=some E→Xgu T σ' t x k=some E)∧∀v,X4q σ' v=X4q σ v→pput T σ t x k v=some E→pput T σ' t x k v=some E:=by
 subst hσ hσ'
 refine ⟨fun h=>?_,fun h=>?_,fun v hv h=>?_⟩
 ·unfold pdel at h ⊢
  split at h
  case h_2=>cases h
  split at h
  case h_2=>cases h
  split at h
  case h_2=>cases h
  rename_i h3 h4 h5
  simp only [h1,h2,h3,X6a hm h4,h5]
  exact h
 ·unfold Xgu at h ⊢
  split at h
  case h_2=>cases h
  split at h
  case h_2=>cases h
  split at h
  case h_2=>cases h
  rename_i h3 h4 h5
  simp only [h1,h2,h3,X6a hm h4,h5]
  exact h
 ·unfold pput at h ⊢
  split at h
  case h_2=>cases h
  split at h
  case h_2=>cases h
  split at h
  case h_2=>cases h
  rename_i h3 h4 h5
  simp only [h1,h2,h3,X6a hm h4,h5,hv]
  exact h
theorem Xqe {b b' : Nat→Option (List PV)} (hbl:∀i bs,b i=some bs→∃bs',b' i=some bs'∧bs'.map PV.bare=bs.map PV.bare) {src dst:TD} {x v:PV} (h:Xkx T b src dst x=some v):Xkx T b' src dst x=some v:=by
 unfold Xkx at h ⊢
 split at h
 case h_2=>cases h
 rename_i id o n k
 split at h
 case h_2=>cases h
 rename_i e kk by_ zr
 split at h
 case h_2=>cases h
 rename_i ei bs he hb
 obtain ⟨bs',h1,h2⟩:=hbl id bs hb
 have hlen:bs'.length=bs.length:=by have:=congrArg List.length h2;simpa using this
 simp only [he,h1]
 rw [hlen,List.map_take,List.map_drop,h2,←List.map_drop,←List.map_take]
 exact h
theorem Xce {σ' : PS} {hd:Bool} {id:Nat} {o:Oper} {E:Eff} (h:Zf T hd id σ o.op=some E) (hev:∀t∈X1j o.op.operands.toList,(σ'.t t).bare=(σ.t t).bare) (htk:∀s∈Kr hd o,σ'.t s=σ.t s)
  (hmm:mapU o=true→∀i X,σ.m i=some X→σ'.m i=some X) (hb:Kb hd o=true→∀i bs,σ.b i=some bs→σ'.b i=some bs) (hbl:X0i o=true→∀i bs,σ.b i=some bs→∃bs',σ'.b i=some bs'∧bs'.map PV.bare=bs.map PV.bare) (hid:σ'.freeB id=true):Zf T hd id σ' o.op=some E:=by
 obtain ⟨dst,op,ty,pos,after,guard⟩:=o
 simp only at h hev ⊢
 have ev:∀x∈op.operands.toList,pev σ' x=pev σ x:=by
  intro x hx
  cases x with
  |tmp t=>exact hev t (by simp only [X1j,List.mem_filterMap];exact ⟨.tmp t,hx,rfl⟩)
  |_=>rfl
 have hid1:=(PS.freeB_spec hid).1
 have hid2:=(PS.freeB_spec hid).2
 have own:∀v,v∈op.operands.toList→(∀s,v = .tmp s→s∈Kr hd ⟨dst,op,ty,pos,after,guard⟩)→X4q σ' v=X4q σ v:=by
  intro v hv hs
  have e2:Kj σ' v=Kj σ v:=by
   cases v with
   |tmp s=>exact htk s (hs s rfl)
   |_=>rfl
  simp only [X4q,e2,ev v hv]
 cases op with
 |makeSlice t l c=>
  simp only [Zf,ev l (by simp [Op.operands]),ev c (by simp [Op.operands])] at h ⊢
  exact h
 |makeMap t r=>
  simp only [Zf,hid1,hid2] at h ⊢
  split at h
  ·exact h
  ·cases h
 |range t x=>
  have e1:=ev x (by simp [Op.operands])
  simp only [Zf,hid1,hid2,e1] at h ⊢
  split at h
  ·rename_i h1 h2 h3 h4
   rw [h1,X6a (hmm rfl) h2];exact h
  ·cases h
 |mapUpdate t x k v=>
  simp only [Zf] at h ⊢
  exact (Xb3 (hmm rfl) (ev x (by simp [Op.operands])) (ev k (by simp [Op.operands])) rfl rfl).2.2 v (own v (by simp [Op.operands]) (fun s e=>by subst e;simp [Kr])) h
 |insert t x k v=>
  simp only [Zf] at h ⊢
  exact (Xb3 (hmm rfl) (ev x (by simp [Op.operands])) (ev k (by simp [Op.operands])) rfl rfl).2.2 v (own v (by simp [Op.operands]) (fun s e=>by subst e;simp [Kr])) h
 |lookup t x k ok=>
  simp only [Zf] at h ⊢
  split at h
  ·rename_i hc
   rw [if_pos hc]
   exact (Xb3 (hmm rfl) (ev x (by simp [Op.operands])) (ev k (by simp [Op.operands])) rfl rfl).2.1 h
  ·cases h
 |slice t x lo hi mx=>
  have e1:lo.map (pev σ')=lo.map (pev σ):=by
   cases lo with
   |none=>rfl
   |some y=>simp only [Option.map_some];rw [ev y (by simp [Op.operands])]
  have e2:hi.map (pev σ')=hi.map (pev σ):=by
   cases hi with
   |none=>rfl
   |some y=>simp only [Option.map_some];rw [ev y (by simp [Op.operands])]
  simp only [Zf,ev x (by simp [Op.operands]),e1,e2] at h ⊢
  split at h
  ·rename_i ti m h1
   rw [ev m (by simp [Op.operands])];exact h
  ·exact h
  ·cases h
 |convert s d x=>
  simp only [Zf,ev x (by simp [Op.operands])] at h ⊢
  split at h
  ·rename_i hc
   rw [if_pos hc]
   split at h
   ·rename_i si di hs hd
    obtain ⟨v,hv,rfl⟩:=Option.map_eq_some_iff.1 h
    simp only [hs,hd,Xqe (hbl hc) hv,Option.map_some]
   ·cases h
  ·rename_i hc
   rw [if_neg hc]
   exact h
 |call c=>
  obtain ⟨callee,args,argTypes⟩:=c
  have evA:∀x∈args.toList,pev σ' x=pev σ x:=fun x hx=>ev x (by simp [Op.operands,Call.operands];right;simpa using hx)
  simp only [Zf] at h ⊢
  split at h
  ·split at h
   ·rename_i x k t tl ea et
    exact (Xb3 (hmm rfl) (evA x (by rw [ea];simp)) (evA k (by rw [ea];simp)) rfl rfl).1 h
   ·cases h
  ·split at h
   ·rename_i x y t tl ea et
    split at h
    ·rename_i ti ht
     rw [evA x (by rw [ea];simp),evA y (by rw [ea];simp)]
     have hbm:=hb rfl
     unfold Xjz at h ⊢
     split at h
     ·split at h
      ·rename_i bs n2 cs h1 h2
       rw [hbm _ _ h1]
       rw [Xhl hbm h2];exact h
      ·cases h
     ·cases h
    ·cases h
   ·cases h
  ·cases h
 |_=>simp [Zf] at h
theorem Xbt {σ' : PS} {hd:Bool} {id:Nat} {o:Oper} {E:Eff} (h:presE T hd id σ o.op=some E) (hev:∀t∈X1j o.op.operands.toList,(σ'.t t).bare=(σ.t t).bare) (htk:∀s∈Kr hd o,σ'.t s=σ.t s)
  (hmm:mapU o=true→∀i X,σ.m i=some X→σ'.m i=some X) (hb:Kb hd o=true→∀i bs,σ.b i=some bs→σ'.b i=some bs) (hbl:X0i o=true→∀i bs,σ.b i=some bs→∃bs',σ'.b i=some bs'∧bs'.map PV.bare=bs.map PV.bare) (hid:σ'.freeB id=true):presE T hd id σ' o.op=some E:=by
 obtain ⟨dst,op,ty,pos,after,guard⟩:=o
 simp only at h hev ⊢
 have ev:∀x∈op.operands.toList,pev σ' x=pev σ x:=by
  intro x hx
  cases x with
  |tmp t=>exact hev t (by simp only [X1j,List.mem_filterMap];exact ⟨.tmp t,hx,rfl⟩)
  |_=>rfl
 have hload:X0i ⟨dst,op,ty,pos,after,guard⟩=true→∀(x:TyI) (q p:PV),Zj x σ.b q=some p→Zj x σ'.b q=some p:=by
  intro hu x q p e
  cases q with
  |ptr i off=>
   simp only [Zj] at e ⊢
   cases hbi:σ.b i with
   |none=>rw [hbi] at e;cases e
   |some bs=>
    rw [hbi] at e
    obtain ⟨bs',h1,h2⟩:=hbl hu i bs hbi
    rw [h1]
    simp only [X6f] at e ⊢
    have hlen:bs'.length=bs.length:=by have:=congrArg List.length h2;simpa using this
    split
    ·rename_i hag
     rw [if_pos hag] at e
     rw [hlen,List.map_take,List.map_drop,h2,←List.map_drop,←List.map_take]
     exact e
    ·rename_i hag
     rw [if_neg hag] at e
     rw [←M_,h2,M_]
     exact e
  |_=>exact e
 have hid1:=(PS.freeB_spec hid).1
 have hid2:=(PS.freeB_spec hid).2
 have hmap:∀p,pval T σ op=some p→pval T σ' op=some p→V5 T σ' op=some p:=fun p _ h2=>by unfold V5;rw [h2]
 have hother:pval T σ' op=pval T σ op→(∀p,X2k T σ op=some p→X2k T σ' op=some p)→((V5 T σ op).map fun v=>(⟨v,[],none,[]⟩:Eff))=some E→((V5 T σ' op).map fun v=>(⟨v,[],none,[]⟩:Eff))=some E:=by
  intro h1 h2 e
  obtain ⟨p,hp,rfl⟩:=Option.map_eq_some_iff.1 e
  have:V5 T σ' op=some p:=by
   unfold V5 at hp ⊢
   rw [h1]
   cases hv:pval T σ op with
   |some q=>rw [hv] at hp;exact hp
   |none=>rw [hv] at hp;exact h2 p hp
  rw [this];rfl
 have hx0:(∀σ,X2k T σ op=none)→∀p,X2k T σ op=some p→X2k T σ' op=some p:=fun h1 p hp=>by rw [h1] at hp;cases hp
 cases op with
 |assign x=>
  simp only [presE] at h ⊢
  rw [←h]
  congr 1
  cases x with
  |tmp s=>simp only [X75,htk s (by simp [Kr])]
  |_=>rfl
 |move x=>
  simp only [presE] at h ⊢
  have e1:=ev x (by simp [Op.operands])
  rw [←h,e1]
  by_cases hhd:hd=true
  ·cases x with
   |tmp s=>simp only [X75,htk s (by simp [Kr,hhd])]
   |_=>rfl
  ·simp [hhd]
 |alloc e=>
  simp only [presE] at h ⊢
  rw [hid1,hid2]
  split at h
  ·rename_i ti ht hbn hmn;rw [ht];exact h
  ·cases h
 |box e x=>
  simp only [presE,ev x (by simp [Op.operands])] at h ⊢
  rw [hid1,hid2]
  split at h
  ·rename_i cs hcs hbn hmn;rw [hcs];exact h
  ·cases h
 |store t x y=>
  have how:Kj σ' y=Kj σ y:=by
   cases y with
   |tmp s0=>exact htk s0 (by simp [Kr])
   |_=>rfl
  simp only [presE,ev x (by simp [Op.operands]),ev y (by simp [Op.operands]),how] at h ⊢
  split at h
  ·rename_i j off hx
   split at h
   ·rename_i ho
    simp only [ho,if_true]
    split at h
    ·rename_i bs ti hbs ht
     rw [hb rfl j bs hbs,ht]
     exact h
    ·cases h
   ·rename_i ho
    simp only [ho,if_false,Bool.false_eq_true]
    split at h
    ·rename_i bs ti new hbs ht hn
     rw [hb rfl j bs hbs,ht,hn]
     exact h
    ·cases h
  ·cases h
 |makeSlice t l c=>
  simp only [presE,ev l (by simp [Op.operands]),ev c (by simp [Op.operands])] at h ⊢
  rw [hid1,hid2]
  split at h
  ·rename_i ti kx x ky y ht hx hy hbn hmn
   rw [ht,hx,hy];exact h
  ·cases h
 |buildSlice t len parts=>
  simp only [presE] at h ⊢
  have e1:(parts.toList.map fun x=>(x.1,pev σ' x.2))=parts.toList.map fun x=>(x.1,pev σ x.2):=by
   apply List.map_congr_left
   intro x hx
   rw [ev x.2 (by simp [Op.operands];exact ⟨x.1,by simpa using hx⟩)]
  rw [e1];exact h
 |call c=>
  obtain ⟨callee,args,argTypes⟩:=c
  have evA:∀x∈args.toList,pev σ' x=pev σ x:=fun x hx=>ev x (by simp [Op.operands,Call.operands];right;simpa using hx)
  simp only [presE] at h ⊢
  split at h
  ·split at h
   ·rename_i s x t t' ea et
    have e1:=evA x (by rw [ea];simp)
    have e2:Kj σ' s=Kj σ s:=by
     cases s with
     |tmp s0=>exact htk s0 (by simp [Kr,ea])
     |_=>rfl
    simp only [ea,et,e1,e2]
    exact h
   ·cases h
  ·refine hother ?_ (fun p hp=>?_) h
   ·simp only [pval]
    split
    ·split
     ·rename_i x t ea et
      rw [evA x (by rw [ea];simp)]
     ·rfl
    ·rfl
   ·have e1:args.toList.map (pev σ')=args.toList.map (pev σ):=List.map_congr_left evA
    simp only [X2k] at hp ⊢
    split at hp
    ·split at hp
     ·rename_i x t ea et
      have e2:=evA x (by rw [ea];simp)
      simp only [ea,et,e2]
      split at hp
      ·rename_i ti ht
       split at hp
       ·rename_i kt et' hk
        obtain ⟨es,hes,rfl⟩:=Option.map_eq_some_iff.1 hp
        have:Xgs σ'.m (pev σ x)=some es:=Xeh (hmm rfl) hes
        rw [this];rfl
       ·cases hp
      ·cases hp
     ·cases hp
    ·rw [e1];exact hp
    ·rw [e1];exact hp
    ·cases hp
 |load t x=>
  have e1:=ev x (by simp [Op.operands])
  have hvl:∀p,pval T σ (.load t x)=some p→pval T σ' (.load t x)=some p:=by
   intro p hp
   simp only [pval,e1] at hp ⊢
   split at hp
   ·exact hload rfl _ _ _ hp
   ·cases hp
  simp only [presE,e1] at h ⊢
  have hO1:∀(q:PV) E',X0u T hd σ.b t q=some E'→X0u T hd σ'.b t q=some E':=by
   intro q E' e
   unfold X0u at e ⊢
   split at e
   ·rename_i j off
    split at e
    ·rename_i hhd
     simp only [hhd,if_true]
     split at e
     ·rename_i bs hbs
      rw [hb (by simpa [Kb] using hhd) j bs hbs]
      exact e
     ·cases e
    ·cases e
   ·cases e
  have hO2:X0u T hd σ.b t (pev σ x)=none→∀p,pval T σ (.load t x)=some p→X0u T hd σ'.b t (pev σ x)=none:=by
   intro e p hp
   unfold X0u at e ⊢
   split
   ·rename_i j off hq
    split
    ·rename_i hhd
     rw [hq] at e
     simp only [hhd,if_true] at e
     simp only [pval,hq] at hp
     cases ht:T.at t with
     |none=>rw [ht] at hp;cases hp
     |some ti=>
      rw [ht] at hp
      simp only [Zj] at hp
      cases hbj:σ.b j with
      |none=>rw [hbj] at hp;cases hp
      |some bs=>
       rw [hbj,ht] at e
       rw [hb (by simpa [Kb] using hhd) j bs hbj]
       exact e
    ·rfl
   ·rfl
  split at h
  ·rename_i E' hE
   rw [hO1 _ E' hE]
   exact h
  ·rename_i hE
   obtain ⟨p,hp,rfl⟩:=Option.map_eq_some_iff.1 h
   have hp' : pval T σ (.load t x)=some p:=by
    unfold V5 at hp
    split at hp
    ·rename_i q hq;rw [hq];exact hp
    ·simp [X2k] at hp
   rw [hO2 hE p hp',hmap p hp' (hvl p hp')]
   rfl
 |sliceToArrayPointer t x=>exact hother rfl (fun p hp=>by simpa only [X2k,ev x (by simp [Op.operands])] using hp) h
 |nilCheck x=>exact hother rfl (fun p hp=>by simpa only [X2k,ev x (by simp [Op.operands])] using hp) h
 |entry x=>
  refine hother rfl (fun p hp=>?_) h
  simp only [X2k,ev x (by simp [Op.operands])] at hp ⊢
  split at hp
  ·rename_i k c hk
   rw [Xfo (hmm rfl) hk];exact hp
  ·cases hp
 |lookup t x k ok=>
  refine hother rfl (fun p hp=>?_) h
  simp only [X2k,ev x (by simp [Op.operands]),ev k (by simp [Op.operands])] at hp ⊢
  split at hp
  ·rename_i ti ht
   split at hp
   ·rename_i c b hl
    rw [Xk7 (hmm rfl) hl];exact hp
   ·cases hp
  ·cases hp
 |pick c x y=>exact hother (by simp only [pval,ev c (by simp [Op.operands]),ev x (by simp [Op.operands]),ev y (by simp [Op.operands])]) (hx0 (fun _=>rfl)) h
 |fieldAddr s x f=>exact hother (by simp only [pval,ev x (by simp [Op.operands])]) (hx0 (fun _=>rfl)) h
 |field s x f=>exact hother (by simp only [pval,ev x (by simp [Op.operands])]) (hx0 (fun _=>rfl)) h
 |indexAddr t x i=>exact hother (by simp only [pval,ev x (by simp [Op.operands]),ev i (by simp [Op.operands])]) (hx0 (fun _=>rfl)) h
 |index t x i=>exact hother (by simp only [pval,ev x (by simp [Op.operands]),ev i (by simp [Op.operands])]) (hx0 (fun _=>rfl)) h
 |binOp op t x y yt=>exact hother (by simp only [pval,ev x (by simp [Op.operands]),ev y (by simp [Op.operands])]) (fun p hp=>by simpa only [X2k,ev x (by simp [Op.operands]),ev y (by simp [Op.operands])] using hp) h
 |unOp op t x=>exact hother (by simp only [pval,ev x (by simp [Op.operands])]) (hx0 (fun _=>rfl)) h
 |convert s d x=>exact hother (by simp only [pval,ev x (by simp [Op.operands])]) (hx0 (fun _=>rfl)) h
 |extract x i=>exact hother (by simp only [pval,ev x (by simp [Op.operands])]) (hx0 (fun _=>rfl)) h
 |slice t x lo hi mx=>
  refine hother ?_ (hx0 (fun _=>rfl)) h
  have e1:lo.map (pev σ')=lo.map (pev σ):=by
   cases lo with
   |none=>rfl
   |some y=>simp only [Option.map_some];rw [ev y (by simp [Op.operands])]
  have e2:hi.map (pev σ')=hi.map (pev σ):=by
   cases hi with
   |none=>rfl
   |some y=>simp only [Option.map_some];rw [ev y (by simp [Op.operands])]
  simp only [pval,ev x (by simp [Op.operands]),e1,e2]
 |makeFunc fn first caps=>
  refine hother ?_ (hx0 (fun _=>rfl)) h
  have e1:caps.toList.map (pev σ')=caps.toList.map (pev σ):=by
   apply List.map_congr_left
   intro x hx
   exact ev x (by simp [Op.operands];right;simpa using hx)
  have e2:first.toList.map (pev σ')=first.toList.map (pev σ):=by
   apply List.map_congr_left
   intro x hx
   exact ev x (by simp [Op.operands];left;simpa using hx)
  simp only [pval,e1,e2]
 |build t parts=>
  refine hother ?_ (hx0 (fun _=>rfl)) h
  have e1:(parts.toList.map fun x=>(x.1,pev σ' x.2))=parts.toList.map fun x=>(x.1,pev σ x.2):=by
   apply List.map_congr_left
   intro x hx
   rw [ev x.2 (by simp [Op.operands];exact ⟨x.1,by simpa using hx⟩)]
  simp only [pval,e1]
 |_=>simp [presE,V5,pval,X2k] at h
end
section
open Go.RowKit
def mu0:Nat→Option Nat:=fun _=>none
def X4j (Φ:Imm) (w:World) (post:PV→Prop) (e:Ending) (w' : World):Prop:=
 ∃r v Φ',e = .returned v∧post r∧Rep Φ' mu0 r v∧(∀b o u,Φ' b o=some u→w'.cell? ⟨b,o,none⟩=some u)∧(∀b o,b < w.heap.size→Φ' b o=Φ b o)∧Below w.heap.size w w' ∧
  (∀n k cs E,r = .sl n k cs (some E)→Ki (fun g=>w.heap.size≤g) Φ' (fun _=>some (.tmp 0)) w' (.tmp 0) n k E v)
def X28 (P:Program) (f:FuncId):Bool:=match P.funcs[f]? with
 |some fn => !(fn.name == "runtime.NumGoroutine") && !fn.body.isNone
 |none=>false
theorem X31 {P:Program} {f:FuncId} (h:X28 P f=true) (args:Array Value) (w:World):(callFunc f args).run P w = .ok (.enter f args) w:=by
 unfold X28 at h
 split at h
 ·rename_i fn hf
  simp only [Bool.and_eq_true,Bool.not_eq_true'] at h
  simp only [callFunc,Sem.run_bind,run_program,Result.andThen_ok,hf,h.1,h.2,Bool.false_eq_true,if_false,Sem.run_pure]
 ·cases h
structure Xs (P:Program) (f:FuncId) (args:List PV) (post:PV→Prop):Prop where
 cb:X28 P f=true
 ok:∀(Φ:Imm) (μ:Nat→Option Nat) (w:World) (vs:List Value),(∀b o u,Φ b o=some u→w.cell? ⟨b,o,none⟩=some u)→X4z Φ→RepL Φ μ args vs→Calls P f vs.toArray w (X4j Φ w post)
theorem Xs.mono {P:Program} {f:FuncId} {args:List PV} {post post' : PV→Prop} (h:Xs P f args post) (hp:∀r,post r→post' r):Xs P f args post':=by
 refine ⟨h.1,fun Φ μ w vs h1 hgl h2=>(h.2 Φ μ w vs h1 hgl h2).mono ?_⟩
 rintro e w' ⟨r,v,Φ',k1,k2,k3⟩
 exact ⟨r,v,Φ',k1,hp r k2,k3⟩
def X8k (σ:PS):Op→Option (FuncId×List PV)
 | .call c=>match c.callee with
  | .value x=>match pev σ x with
   | .fn f caps=>cond (Nat.blt f 1000000) (some (f,c.args.toList.map (pev σ) ++ caps)) (some (unB f,caps ++ c.args.toList.map (pev σ)))
   |_=>none
  |_=>none
 |_=>none
def Xk (ops:Array Oper) (σ:PS) (o:Oper):Option Bool:=
 match o.guard with
 |none=>some true
 |some (j,want)=>match (ops.toList[j]?).bind (·.dst) with
  |some d=>match (σ.t d).bare with
   | .val (.bool b)=>some (b == want)
   | .tup []=>some false
   |_=>none
  |none=>none
def Yr (ops:Array Oper) (dst:Option Nat):Bool:=match dst with
 |some d=>ops.toList.any fun o=>match o.op with
  | .call c=>match c.callee,c.args.toList with
   | .builtin .append, .tmp t :: _=>t == d
   | .value (.func f),l=>match Xbh f l with|some t=>t == d|none=>false
   |_,_=>false
  |_=>false
 |none=>false
def PS.only (σ:PS) (ok:Nat→Bool):PS:={ t:=σ.t,b:=fun id=>if ok id then σ.b id else none,m:=fun id=>if ok id then σ.m id else none }
inductive LowI (S:Nat→Prop):PV→Prop
 |undef:LowI S .undef
 |val (v:Value):LowI S (.val v)
 |nilsl:LowI S .nilsl
 |sl (n k:Nat) (cs:List PV) (own:Option TypeId) (h:∀c∈cs,LowI S c):LowI S (.sl n k cs own)
 |ep (cs:List PV) (off:Nat) (h:∀c∈cs,LowI S c):LowI S (.ep cs off)
 |fn (f:FuncId) (cs:List PV) (h:∀c∈cs,LowI S c):LowI S (.fn f cs)
 |agg (cs:List PV) (h:∀c∈cs,LowI S c):LowI S (.agg cs)
 |tup (cs:List PV) (h:∀c∈cs,LowI S c):LowI S (.tup cs)
 |ptr (id off:Nat) (h:S id):LowI S (.ptr id off)
 |msl (id off n k:Nat) (h:S id):LowI S (.msl id off n k)
 |mref (id:Nat) (h:S id):LowI S (.mref id)
theorem Low.lowI {S:Nat→Prop} {p:PV} (h:Low p):LowI S p:=by
 induction h with
 |undef=>exact .undef
 |val v=>exact .val v
 |nilsl=>exact .nilsl
 |sl n k cs own h ih=>exact .sl n k cs own ih
 |ep cs off h ih=>exact .ep cs off ih
 |fn f cs h ih=>exact .fn f cs ih
 |agg cs h ih=>exact .agg cs ih
 |tup cs h ih=>exact .tup cs ih
theorem LowI.mono {S S' : Nat→Prop} {p:PV} (hs:∀i,S i→S' i) (h:LowI S p):LowI S' p:=by
 induction h with
 |undef=>exact .undef
 |val v=>exact .val v
 |nilsl=>exact .nilsl
 |sl n k cs own h ih=>exact .sl n k cs own ih
 |ep cs off h ih=>exact .ep cs off ih
 |fn f cs h ih=>exact .fn f cs ih
 |agg cs h ih=>exact .agg cs ih
 |tup cs h ih=>exact .tup cs ih
 |ptr id off h=>exact .ptr id off (hs _ h)
 |msl id off n k h=>exact .msl id off n k (hs _ h)
 |mref id h=>exact .mref id (hs _ h)
theorem Rep.lowI {S:Nat→Prop} {Φ:Imm} {μ μ' : Nat→Option Nat} {p:PV} {v:Value} (h:Rep Φ μ p v) (hl:LowI S p) (hμ:∀i,S i→∀g,μ i=some g→μ' i=some g):Rep Φ μ' p v:=by
 induction h with
 |undef v=>exact .undef v
 |val v h=>exact .val v h
 |nilsl=>exact .nilsl
 |sl0 k own a cap h=>exact .sl0 k own a cap h
 |sl n k cs own b off cap us h1 h2 h3 hp hr ih=>cases hl with|sl _ _ _ _ hl=>exact .sl n k cs own b off cap us h1 h2 h3 hp (fun j c hj=>ih j c hj (hl c (Xc hj)))
 |ptr id off g h=>cases hl with|ptr _ _ hs=>exact .ptr id off g (hμ id hs g h)
 |msl id off n k a cap h h2 h3=>cases hl with|msl _ _ _ _ hs=>exact .msl id off n k a cap (fun hn=>by obtain ⟨g,h1,h4⟩:=h hn;exact ⟨g,hμ id hs g h1,h4⟩) h2 h3
 |ep cs off b o us hp hr ih=>cases hl with|ep _ _ hl=>exact .ep cs off b o us hp (fun j c hj=>ih j c hj (hl c (Xc hj)))
 |fn f cs us hr ih=>cases hl with|fn _ _ hl=>exact .fn f cs us (fun j c hj=>ih j c hj (hl c (Xc hj)))
 |agg cs us hr ih=>cases hl with|agg _ hl=>exact .agg cs us (fun j c hj=>ih j c hj (hl c (Xc hj)))
 |tup cs us hr ih=>cases hl with|tup _ hl=>exact .tup cs us (fun j c hj=>ih j c hj (hl c (Xc hj)))
 |mref id g h=>cases hl with|mref _ hs=>exact .mref id g (hμ id hs g h)
def LowM (S:Nat→Prop):PMap→Prop
 | .map es _=>∀e∈es,LowI S e.2.1∧LowI S e.2.2
 | .iter mid _ _ _=>S mid
theorem V2.lowI {S:Nat→Prop} {B B' : Nat→Prop} {Φ:Imm} {μ μ' : Nat→Option Nat} {ω ω' : Nat→Option Who} {w:World} {id:Nat} {bs:List PV} (h:V2 B Φ μ ω w id bs) (hs:S id) (hl:∀c∈bs,LowI S c) (hμ:∀i,S i→∀g,μ i=some g→μ' i=some g) (hω:∀q,OfId id q→∀g,ω g=some q→ω' g=some q∧B' g):V2 B' Φ μ' ω' w id bs:=by
 obtain ⟨g,cur,T,h1,h2,h3,h4,h5,h6,h7⟩:=h
 obtain ⟨k1,k2⟩:=hω _ (.inl rfl) g h4
 refine ⟨g,cur,T,hμ _ hs _ h1,h2,k2,k1,h5,h6,fun j c hc=>?_⟩
 obtain ⟨u,r1,r2,r3,r4⟩:=h7 j c hc
 exact ⟨u,r1,r2,r3.lowI (hl c (Xc hc)) hμ,fun n k cs E e=>((r4 n k cs E e).inB (fun g e=>(hω _ (.inr ⟨j,rfl⟩) g e).2)).step (fun g e=>⟨rfl,fun _=>rfl,(hω _ (.inr ⟨j,rfl⟩) g e).1⟩)⟩
theorem Z6.lowI {S:Nat→Prop} {B B' : Nat→Prop} {Φ:Imm} {μ μ' : Nat→Option Nat} {ω ω' : Nat→Option Who} {w:World} {id:Nat} {X:PMap} (h:Z6 B Φ μ ω w id X) (hs:S id) (hl:LowM S X) (hμ:∀i,S i→∀g,μ i=some g→μ' i=some g) (hω:∀q,OfId id q→∀g,ω g=some q→ω' g=some q∧B' g):Z6 B' Φ μ' ω' w id X:=by
 obtain ⟨g,h1,h2,h3,h4,h5⟩:=h
 obtain ⟨k1,k2⟩:=hω _ (.inl rfl) g h3
 refine ⟨g,hμ _ hs _ h1,k2,k1,h4,?_⟩
 cases X with
 |map es clock=>
  obtain ⟨e0,ents,e1,e2,e3⟩:=h5
  refine ⟨e0,ents,e1,e2,fun j s k c hj=>?_⟩
  obtain ⟨e,f1,f2,f3,f4,f5⟩:=e3 j s k c hj
  have:=hl _ (Xc hj)
  exact ⟨e,f1,f2,f3.lowI this.1 hμ,f4.lowI this.2 hμ,fun n kk cs E ec=>((f5 n kk cs E ec).inB (fun g e=>(hω _ (.inr ⟨s,rfl⟩) g e).2)).step (fun g e=>⟨rfl,fun _=>rfl,(hω _ (.inr ⟨s,rfl⟩) g e).1⟩)⟩
 |iter mid since seen last=>
  obtain ⟨gm,e1,e2⟩:=h5
  exact ⟨gm,hμ _ hl _ e1,e2⟩
theorem V2.inB {B B' : Nat→Prop} {Φ:Imm} {μ:Nat→Option Nat} {ω:Nat→Option Who} {w:World} {id:Nat} {bs:List PV} (h:V2 B Φ μ ω w id bs) (hB:∀g q,OfId id q→ω g=some q→B' g):V2 B' Φ μ ω w id bs:=by
 obtain ⟨g,cur,T,h1,h2,h3,h4,h5,h6,h7⟩:=h
 refine ⟨g,cur,T,h1,h2,hB g _ (.inl rfl) h4,h4,h5,h6,fun j c hc=>?_⟩
 obtain ⟨u,r1,r2,r3,r4⟩:=h7 j c hc
 exact ⟨u,r1,r2,r3,fun n k cs E e=>(r4 n k cs E e).inB (fun g e=>hB g _ (.inr ⟨j,rfl⟩) e)⟩
theorem Z6.inB {B B' : Nat→Prop} {Φ:Imm} {μ:Nat→Option Nat} {ω:Nat→Option Who} {w:World} {id:Nat} {X:PMap} (h:Z6 B Φ μ ω w id X) (hB:∀g q,OfId id q→ω g=some q→B' g):Z6 B' Φ μ ω w id X:=by
 obtain ⟨g,h1,h2,h3,h4,h5⟩:=h
 refine ⟨g,h1,hB g _ (.inl rfl) h3,h3,h4,?_⟩
 cases X with
 |map es clock=>
  obtain ⟨e0,ents,e1,e2,e3⟩:=h5
  refine ⟨e0,ents,e1,e2,fun j s k c hj=>?_⟩
  obtain ⟨e,f1,f2,f3,f4,f5⟩:=e3 j s k c hj
  exact ⟨e,f1,f2,f3,f4,fun n kk cs E ec=>(f5 n kk cs E ec).inB (fun g e=>hB g _ (.inr ⟨s,rfl⟩) e)⟩
 |iter mid since seen last=>exact h5
def X0 (res:List (Nat×List PV)) (rm:List (Nat×PMap)):List Nat:=res.map (·.1) ++ rm.map (·.1)
def Giv (ω:Nat→Option Who) (ids:List Nat) (g:Nat):Prop:=∃id∈ids,∃q,OfId id q∧ω g=some q
def X4a (ω:Nat→Option Who) (w:World) (ids:List Nat) (g:Nat):Prop:=w.heap.size≤g∨Giv ω ids g
def Y3p (Φ:Imm) (μ:Nat→Option Nat) (ω:Nat→Option Who) (w:World) (ids:List Nat) (r:PV) (res:List (Nat×List PV)) (rm:List (Nat×PMap)) (e:Ending) (w' : World):Prop:=
 ∃v Φ' μ' ω',e = .returned v∧Rep Φ' μ' r v∧(∀b o u,Φ' b o=some u→w'.cell? ⟨b,o,none⟩=some u)∧(∀b o u,Φ b o=some u→Φ' b o=some u)∧(∀b o,b < w.heap.size→¬Giv ω ids b→Φ' b o=Φ b o) ∧
  Kept (fun b=>b < w.heap.size∧¬Giv ω ids b) w w'∧(∀id∈ids,μ' id=μ id)∧(∀id g,μ' id=some g→id∈X0 res rm)∧(∀x∈res,V2 (X4a ω w ids) Φ' μ' ω' w' x.1 x.2)∧(∀x∈rm,Z6 (X4a ω w ids) Φ' μ' ω' w' x.1 x.2) ∧
  (∀g p,ω' g=some p→g < w'.heap.size∧X4a ω w ids g)∧(∀n k cs E,r = .sl n k cs (some E)→Ki (X4a ω w ids) Φ' ω' w' (.tmp 0) n k E v)
structure Xe (P:Program) (f:FuncId) (args:List PV) (given:List (Nat×List PV)) (gm:List (Nat×PMap)) (r:PV) (res:List (Nat×List PV)) (rm:List (Nat×PMap)):Prop where
 cb:X28 P f=true
 ok:∀(Φ:Imm) (μ:Nat→Option Nat) (ω:Nat→Option Who) (w:World) (vs:List Value),(∀b o u,Φ b o=some u→w.cell? ⟨b,o,none⟩=some u)→X4z Φ→RepL Φ μ args vs →
  (∀x∈given,V2 (fun _=>True) Φ μ ω w x.1 x.2)→(∀x∈gm,Z6 (fun _=>True) Φ μ ω w x.1 x.2)→(∀g p,ω g=some p→g < w.heap.size)→Calls P f vs.toArray w (Y3p Φ μ ω w (X0 given gm) r res rm)
def AllB (σ:PS) (ok:Nat→Bool):List (Nat×List PV)→Prop
 | []=>True
 |x :: l=>(ok x.1=true∧σ.b x.1=some x.2)∧AllB σ ok l
def AllM (σ:PS) (ok:Nat→Bool):List (Nat×PMap)→Prop
 | []=>True
 |x :: l=>(ok x.1=true∧σ.m x.1=some x.2)∧AllM σ ok l
theorem AllB.mem {σ:PS} {ok:Nat→Bool} : ∀{l:List (Nat×List PV)},AllB σ ok l→∀x∈l,ok x.1=true∧σ.b x.1=some x.2
 |y :: l,h,x,hx=>by
  rcases List.mem_cons.1 hx with rfl|hx
  ·exact h.1
  ·exact AllB.mem h.2 x hx
theorem AllM.mem {σ:PS} {ok:Nat→Bool} : ∀{l:List (Nat×PMap)},AllM σ ok l→∀x∈l,ok x.1=true∧σ.m x.1=some x.2
 |y :: l,h,x,hx=>by
  rcases List.mem_cons.1 hx with rfl|hx
  ·exact h.1
  ·exact AllM.mem h.2 x hx
theorem AllB.of {σ:PS} {ok:Nat→Bool} : ∀{l:List (Nat×List PV)},(∀x∈l,ok x.1=true∧σ.b x.1=some x.2)→AllB σ ok l
 | [],_=>trivial
 |y :: l,h=>⟨h y S_,AllB.of (fun x hx=>h x (by simp [hx]))⟩
theorem AllM.of {σ:PS} {ok:Nat→Bool} : ∀{l:List (Nat×PMap)},(∀x∈l,ok x.1=true∧σ.m x.1=some x.2)→AllM σ ok l
 | [],_=>trivial
 |y :: l,h=>⟨h y S_,AllM.of (fun x hx=>h x (by simp [hx]))⟩
def Xd3:List Nat→Bool
 | []=>true
 |x :: l => !l.contains x && Xd3 l
theorem X3y:∀{l:List Nat},Xd3 l=true→l.Nodup
 | [],_=>by simp
 |x :: l,h=>by
  simp only [Xd3,Bool.and_eq_true,Bool.not_eq_true'] at h
  rw [List.nodup_cons]
  exact ⟨by simpa using h.1,X3y h.2⟩
def Xh2 (σ:PS) (ok:Nat→Bool) (gb gm rb rm:List Nat):Bool:=Xd3 (rb ++ rm) && gb.all (fun i=>rb.contains i) && gm.all (fun i=>rm.contains i) && (rb ++ rm).all (fun i=>(gb ++ gm).contains i || (ok i && (Nat.blt i 1000000 && σ.freeB i)))
theorem X3r {σ:PS} {ok:Nat→Bool} {gb gm rb rm:List Nat} (h:Xh2 σ ok gb gm rb rm=true):(rb ++ rm).Nodup∧(∀i∈gb,i∈rb)∧(∀i∈gm,i∈rm)∧∀i∈rb ++ rm,i∈gb ++ gm∨(ok i=true∧i < 1000000∧σ.freeB i=true):=by
 simp only [Xh2,Bool.and_eq_true] at h
 obtain ⟨⟨⟨h1,h2⟩,h4⟩,h3⟩:=h
 refine ⟨X3y h1,fun i hi=>by simpa using List.all_eq_true.1 h2 i hi,fun i hi=>by simpa using List.all_eq_true.1 h4 i hi,fun i hi=>?_⟩
 have:=List.all_eq_true.1 h3 i hi
 simp only [Bool.or_eq_true,Bool.and_eq_true] at this
 rcases this with h|⟨h1,h2,h3⟩
 ·exact .inl (List.contains_iff_mem.1 h)
 ·exact .inr ⟨h1,by simpa [Nat.blt_eq] using h2,h3⟩
def GivO (ω:Nat→Option Who) (ids:List Nat) (args:List PV) (g:Nat):Prop:=Giv ω ids g∨∃(i:Nat) (p:PV),args[i]? = some p∧p.ownB=true∧ω g=some (.tmp i)
def NewO (ω:Nat→Option Who) (w:World) (ids:List Nat) (args:List PV) (g:Nat):Prop:=w.heap.size≤g∨GivO ω ids args g
def Y7h (Φ:Imm) (μ:Nat→Option Nat) (ω:Nat→Option Who) (w:World) (ids:List Nat) (args:List PV) (r:PV) (res:List (Nat×List PV)) (rm:List (Nat×PMap)) (e:Ending) (w' : World):Prop:=
 ∃v Φ' μ' ω',e = .returned v∧Rep Φ' μ' r v∧(∀b o u,Φ' b o=some u→w'.cell? ⟨b,o,none⟩=some u)∧(∀b o u,Φ b o=some u→Φ' b o=some u)∧(∀b o,b < w.heap.size→¬GivO ω ids args b→Φ' b o=Φ b o) ∧
  Kept (fun b=>b < w.heap.size∧¬GivO ω ids args b) w w'∧(∀id∈ids,μ' id=μ id)∧(∀id g,μ' id=some g→id∈X0 res rm)∧(∀x∈res,V2 (NewO ω w ids args) Φ' μ' ω' w' x.1 x.2)∧(∀x∈rm,Z6 (NewO ω w ids args) Φ' μ' ω' w' x.1 x.2) ∧
  (∀g p,ω' g=some p→g < w'.heap.size∧NewO ω w ids args g)∧(∀n k cs E,r = .sl n k cs (some E)→Ki (NewO ω w ids args) Φ' ω' w' (.tmp 0) n k E v)
structure X27 (P:Program) (f:FuncId) (args:List PV) (given:List (Nat×List PV)) (gm:List (Nat×PMap)) (r:PV) (res:List (Nat×List PV)) (rm:List (Nat×PMap)):Prop where
 cb:X28 P f=true
 ok:∀(Φ:Imm) (μ:Nat→Option Nat) (ω:Nat→Option Who) (w:World) (vs:List Value),(∀b o u,Φ b o=some u→w.cell? ⟨b,o,none⟩=some u)→X4z Φ→RepL Φ μ args vs →
  (∀x∈given,V2 (fun _=>True) Φ μ ω w x.1 x.2)→(∀x∈gm,Z6 (fun _=>True) Φ μ ω w x.1 x.2)→(∀g p,ω g=some p→g < w.heap.size) →
  (∀(i n k:Nat) (cs:List PV) (E:TypeId) (v:Value),args[i]? = some (PV.sl n k cs (some E))→vs[i]? = some v→Ki (fun _=>True) Φ ω w (.tmp i) n k E v)→Calls P f vs.toArray w (Y7h Φ μ ω w (X0 given gm) args r res rm)
def OMay (P:Program) (ops:Array Oper) (ok:Nat→Nat→Bool) (i:Nat) (o:Oper) (σ:PS) (E:Eff):Prop:=
 ∃c x f p s n k cs Et given gm r res rm,o.op = .call c∧c.callee = .value x∧pev σ x = .fn f []∧f < 1000000∧σ.t s = .sl n k cs (some Et)∧c.args.toList[p]? = some (.tmp s)∧X27 P f ((c.args.toList.map (pev σ)).set p (.sl n k cs (some Et))) given gm r res rm∧AllB σ (ok i) given∧AllM σ (ok i) gm ∧
  Xh2 σ (ok i) (given.map (·.1)) (gm.map (·.1)) (res.map (·.1)) (rm.map (·.1))=true∧E=⟨r,res,some s,rm⟩∧((X0w o.op=true∧s∈Kr (Yr ops o.dst) o)∨∀j id,ok j id=true)
def HMay (P:Program) (ok:Nat→Nat→Bool) (i:Nat) (o:Oper) (σ:PS) (E:Eff):Prop:=
 ∃f args given gm r res rm,X8k σ o.op=some (f,args)∧Xe P f args given gm r res rm∧AllB σ (ok i) given∧AllM σ (ok i) gm∧Xh2 σ (ok i) (given.map (·.1)) (gm.map (·.1)) (res.map (·.1)) (rm.map (·.1))=true∧E=⟨r,res,none,rm⟩∧(X0w o.op=true∨∀j id,ok j id=true)
def SMay (P:Program) (ok:Nat→Nat→Bool) (o:Oper) (σ:PS) (E:Eff):Prop:=
 (∀j id,ok j id=true)∧∀Φ0 W M a w,(∀d,o.dst=some d→d < M)→Rel Φ0 W M σ a w→∀(next:Act→World→Prop) (Q:Exit→Act→World→Prop),(∀a' w',Rel Φ0 W M (σ.app o.dst E) a' w'→next a' w')→o.wp P a w next Q
theorem Y1m {Φ0:Ent} {W:World} {M:Nat} {a:Act} {w:World} {P:Program} {o:Oper} {σ:PS} (h:Does P Φ0 W M a w o σ) {next:Act→World→Prop} {Q:Exit→Act→World→Prop} (hn:∀a' w',Rel Φ0 W M σ a' w'→next a' w'):o.wp P a w next Q:=by
 obtain ⟨nx,v,w',r1,r2,r3⟩:=h
 unfold Oper.wp
 rw [r1]
 rcases r2 with rfl|⟨rfl,rfl⟩
 ·exact hn _ _ r3
 ·exact hn _ _ r3
def RMay (P:Program) (ok:Nat→Nat→Bool) (i:Nat) (o:Oper) (σ:PS) (E:Eff):Prop:=
 ∃f args given gm r,X8k σ o.op=some (f,args)∧Xe P f args given gm r given gm∧AllB σ (ok i) given∧AllM σ (ok i) gm∧Xd3 (given.map (·.1) ++ gm.map (·.1))=true∧E=⟨r,[],none,[]⟩∧(Xdn o.op=true∨∀j id,ok j id=true)
def May (P:Program) (T:Tab) (ops:Array Oper) (base:Nat) (ok:Nat→Nat→Bool) (i:Nat) (o:Oper) (σ:PS) (E:Eff):Prop:=
 (Xk ops σ o=some false∧E=⟨.tup [],[],none,[]⟩)∨(Xk ops σ o=some true∧(((presE T (Yr ops o.dst) (base+i) (σ.only (ok i)) o.op=some E∨Zf T (Yr ops o.dst) (base+i) (σ.only (ok i)) o.op=some E)∧σ.freeB (base+i)=true) ∨
  (∃f args r d,o.dst=some d∧X8k σ o.op=some (f,args)∧Xs P f args (· = r)∧E=⟨r,[],none,[]⟩)∨HMay P ok i o σ E∨SMay P ok o σ E∨RMay P ok i o σ E∨OMay P ops ok i o σ E))
def PWop (P:Program) (T:Tab) (ops:Array Oper) (base:Nat) (ok:Nat→Nat→Bool) (i:Nat) (o:Oper) (K:PS→Prop) (σ:PS):Prop:=∃E,May P T ops base ok i o σ E∧K (σ.app o.dst E)
def X5 (P:Program) (T:Tab) (ops:Array Oper) (base:Nat) (ok:Nat→Nat→Bool):List (Nat×Oper)→(PS→Prop)→PS→Prop
 | [],Q,σ=>Q σ
 |(i,o) :: rest,Q,σ=>PWop P T ops base ok i o (X5 P T ops base ok rest Q) σ
def Y8h:Op→Bool
 | .defer _=>true
 |_=>false
def dstB (M:Nat) (o:Oper):Bool:=(match o.dst with
 |some d=>decide (d < M) && !Xx7 o.op
 |none => !Xby o.op) && !Y8h o.op
end
section
open Go.RowKit
variable {Φ0:Ent} {W:World} {M:Nat} {Φ:Imm} {μ:Nat→Option Nat} {ω:Nat→Option Who} {σ:PS} {a:Act} {w:World} {P:Program} {T:Tab}
theorem X5a {o:Oper} (h:dstB M o=true):(∀d,o.dst=some d→d < M)∧(Xx7 o.op=true→o.dst=none)∧(Xby o.op=true→o.dst.isSome=true):=by
 unfold dstB at h
 rw [Bool.and_eq_true] at h
 replace h:=h.1
 cases hd:o.dst with
 |none=>
  rw [hd] at h
  refine ⟨fun d e=>(by cases e),fun _=>rfl,fun e=>(by simp [e] at h)⟩
 |some d=>
  rw [hd] at h
  simp only [Bool.and_eq_true,decide_eq_true_eq,Bool.not_eq_true'] at h
  refine ⟨fun d' e=>(by cases e;exact h.1),fun e=>(by rw [e] at h;simp at h),fun _=>rfl⟩
theorem Vz {o:Oper} (h:dstB M o=true):∀c,o.op≠.defer c:=by
 intro c e
 unfold dstB at h
 rw [Bool.and_eq_true] at h
 have:=h.2
 rw [e] at this
 cases this
theorem X32 (h:RelG Φ0 W M Φ μ ω σ a w) {ops:Array Oper} {o:Oper} {b:Bool} (hM:∀(j d:Nat),(ops[j]?).bind (·.dst)=some d→d < M) (hg:Xk ops σ o=some b):Region.wanted o (yielded ops a.tmps)=b:=by
 unfold Xk at hg
 unfold Region.wanted
 split at hg
 ·rename_i e
  rw [e]
  simpa using hg
 ·rename_i j want e
  rw [e]
  simp only
  split at hg
  ·rename_i d hd
   rw [Array.getElem?_toList] at hd
   have hlt:d < a.tmps.size:=by rw [h.size];exact hM j d hd
   have hr:=(h.tmps d).bare
   have hget:a.tmps[d]? = some (a.tmps.getD d undef):=by simp [Array.getD_eq_getD_getElem?,hlt]
   split at hg
   ·rename_i b' hb
    rw [hb] at hr
    obtain ⟨hv,-⟩:=hr.val_inv
    simp only [Option.some.injEq] at hg
    subst hg
    simp [yielded,hd,hget,hv]
   ·rename_i hb
    rw [hb] at hr
    obtain ⟨us,hv,hl⟩:=hr.tup_inv
    obtain rfl:us = []:=List.eq_nil_of_length_eq_zero (by simpa using hl.1)
    simp only [Option.some.injEq] at hg
    subst hg
    simp [yielded,hd,hget,hv]
   ·cases hg
  ·cases hg
theorem RelG.skip (h:RelG Φ0 W M Φ μ ω σ a w) {dst:Option Nat} (hd:∀d,dst=some d→d < M):RelG Φ0 W M Φ μ ω (σ.app dst ⟨.tup [],[],none,[]⟩) (a.put dst undef) w:=by
 cases dst with
 |none=>exact h
 |some d=>exact h.put (hd d rfl) (p:=.tup []) (by have:=(RepL.nil (Φ:=Φ) (μ:=μ)).tup;exact this) rfl
theorem Y2p {a b:Nat} (h:Nat.blt a b=false):¬a < b:=by
 intro hh
 have e:Nat.blt a b=true:=by simpa [Nat.blt_eq] using hh
 rw [e] at h;cases h
theorem Y3v {f:Nat} {us:Array Value} (h:¬f < 1000000):fnV f us = .func (.func (unB f)) us #[]:=if_neg h
theorem Xux {o:Oper} {c:Call} {x:Operand} {f:FuncId} {us:List Value} (hop:o.op = .call c) (hcal:c.callee = .value x) (hv:a.eval x = .func (.func f) us.toArray #[]) (hcb:X28 P f=true):(execOp a.eval o).run P w = .ok (.enter f (us ++ c.args.toList.map a.eval).toArray) w:=by
 simp only [execOp,hop,resolve,hcal,hv,Deferred.ofValue,Sem.run_bind,Sem.run_pure,Result.andThen_ok,invoke]
 have e:us.toArray ++ c.args.map a.eval ++ (#[]:Array Value)=(us ++ c.args.toList.map a.eval).toArray:=by
  apply Array.ext'
  simp
 rw [e,X31 hcb]
theorem Xid (h:RelG Φ0 W M Φ μ ω σ a w) (o:Oper) {f:FuncId} {args:List PV} (hc:X8k σ o.op=some (f,args)) (hcb:X28 P f=true):∃us,RepL Φ μ args us∧(execOp a.eval o).run P w = .ok (.enter f us.toArray) w:=by
 unfold X8k at hc
 split at hc
 case h_2=>cases hc
 rename_i c hop
 split at hc
 case h_2=>cases hc
 rename_i x hcal
 split at hc
 case h_2=>cases hc
 rename_i f' caps hx
 have hxr:=h.ev x
 rw [hx] at hxr
 obtain ⟨us,hv,hl⟩:=hxr.fn_inv
 have happ:∀{ps qs:List PV} {us vs:List Value},RepL Φ μ ps us→RepL Φ μ qs vs→RepL Φ μ (ps ++ qs) (us ++ vs):=by
  intro ps qs us vs h1 h2
  refine ⟨by simp [h1.1,h2.1],fun j p u e1 e2=>?_⟩
  by_cases hj:j < ps.length
  ·rw [List.getElem?_append_left hj] at e1
   rw [List.getElem?_append_left (by rw [h1.1];exact hj)] at e2
   exact h1.2 j p u e1 e2
  ·rw [List.getElem?_append_right O_] at e1
   rw [List.getElem?_append_right (by rw [h1.1];omega),h1.1] at e2
   exact h2.2 _ p u e1 e2
 have hA:RepL Φ μ (c.args.toList.map (pev σ)) (c.args.toList.map a.eval):=by
  refine ⟨S_,fun j p u h1 h2=>?_⟩
  rw [M_] at h1 h2
  obtain ⟨y,hy,rfl⟩:=Option.map_eq_some_iff.1 h1
  rw [hy] at h2
  simp at h2
  subst h2
  exact h.ev y
 cases hb:Nat.blt f' 1000000 with
 |true=>
  rw [hb] at hc
  simp only [cond_true,Option.some.injEq,Prod.mk.injEq] at hc
  obtain ⟨rfl,rfl⟩:=hc
  have hlt:f' < 1000000:=by simpa [Nat.blt_eq] using hb
  unfold fnV at hv
  rw [if_pos hlt] at hv
  refine ⟨_,happ hA hl,?_⟩
  simp only [execOp,hop,resolve,hcal,hv,Deferred.ofValue,Sem.run_bind,Sem.run_pure,Result.andThen_ok,invoke]
  have e:(#[]:Array Value) ++ c.args.map a.eval ++ us.toArray=(c.args.toList.map a.eval ++ us).toArray:=by
   apply Array.ext'
   simp
  rw [e,X31 hcb]
 |false=>
  rw [hb] at hc
  obtain ⟨e1,e2⟩:=Prod.mk.inj (Option.some.inj hc)
  subst e2
  refine ⟨_,happ hl hA,?_⟩
  have hv2:a.eval x = .func (.func f) us.toArray #[]:=by rw [←e1,hv];exact Y3v (Y2p hb)
  exact Xux hop hcal hv2 hcb
theorem Xqh (h:RelG Φ0 W M Φ μ ω σ a w) (o:Oper) {d:Nat} (hd:o.dst=some d) (hM:d < M) {f:FuncId} {args:List PV} {post:PV→Prop} (hc:X8k σ o.op=some (f,args)) (hp:Xs P f args post) {next:Act→World→Prop} {Q:Exit→Act→World→Prop}
  (hn:∀r a' w',post r→Rel Φ0 W M (σ.put d r) a' w'→next a' w'):o.wp P a w next Q:=by
 obtain ⟨us,hargs,hrun⟩:=Xid h o hc hp.1
 unfold Oper.wp
 rw [hrun]
 show Calls P f _ w _
 refine (hp.2 Φ μ w _ h.imm h.glob hargs).mono ?_
 rintro e w' ⟨r,v,Φ',rfl,hr,hrep,himm,hold,hb,hown⟩
 simp only
 rw [hd]
 have hsub:∀b o u,Φ b o=some u→Φ' b o=some u:=fun b o u e=>by rw [hold b o (h.fresh e)];exact e
 have h1:RelG Φ0 W M Φ' μ ω σ a w':=by
  refine h.grow (h.below.trans (Kept.of hb fun k hk=>Nat.lt_of_lt_of_le hk.1 h.below.size)) himm (fun b o hbo=>hold b o (Nat.lt_of_lt_of_le hbo.1 h.below.size)) hsub (fun g p e=>⟨hb.block g (h.lt g p e),fun j=>hold g j (h.lt g p e)⟩) hb.size
 have hrep' : Rep Φ' μ r v:=hrep.mono (fun _ _ _ e=>e) (fun i g e=>by cases e)
 by_cases ho:r.ownB=false
 ·exact hn r _ _ hr ⟨Φ',μ,ω,h1.put hM hrep' ho⟩
 ·obtain ⟨n,k,cs,E,rfl⟩:∃n k cs E,r = .sl n k cs (some E):=by
   cases r with
   |sl n k cs own=>cases own with
    |none=>exact absurd rfl ho
    |some E=>exact ⟨n,k,cs,E,rfl⟩
   |_=>exact absurd rfl ho
  have hoo:=hown n k cs E rfl
  have h2:=h1.put hM hrep'.bare (PV.bare_own _)
  have hd' : d < a.tmps.size:=by rw [h.size];exact hM
  have fin:∀ω',(∀g p,ω g=some p→ω' g=some p)→(∀g p,ω' g=some p→g < w'.heap.size∧Mine Φ0 W g)→Ki (Mine Φ0 W) Φ' ω' w' (.tmp d) n k E v→next (a.put (some d) v) w':=by
   intro ω' hω hlt ho'
   have hstep:∀q n k E v,Ki (Mine Φ0 W) Φ' ω w' q n k E v→Ki (Mine Φ0 W) Φ' ω' w' q n k E v:=fun q n k E v hh=>hh.step (fun g e=>⟨rfl,fun _=>rfl,hω g q e⟩)
   refine hn _ _ _ hr ⟨Φ',μ,ω',h1.below,h1.defers,by simp [Act.put,h.size],h1.imm,h1.old,fun t=>?_,fun t n' k' cs' E' et=>?_,fun id bs eb=>?_,h1.gone,fun g p e=>(hlt g p e).1,h1.gmu,h1.kmu,h1.ext,fun id X e=>(h1.map id X e).step (fun _ _ _ e=>e) (fun _ _ e=>e) (fun q _ g e=>⟨rfl,fun _=>rfl,hω g q e⟩),fun g p e=>(hlt g p e).2⟩
   ·rw [K5 _ _ _ _ hd']
    simp only [PS.put,X8]
    by_cases ht:t=d
    ·simp only [if_pos ht];exact hrep'
    ·simp only [if_neg ht];exact h1.tmps t
   ·rw [K5 _ _ _ _ hd']
    simp only [PS.put,X8] at et
    by_cases ht:t=d
    ·simp only [if_pos ht] at et ⊢
     cases et
     subst ht
     exact ho'
    ·simp only [if_neg ht] at et ⊢
     exact hstep _ _ _ _ _ (h1.own t n' k' cs' E' et)
   ·obtain ⟨g,cur',Ty,q1,q2,q3,q4,q5,q6,q7⟩:=h1.box id bs eb
    refine ⟨g,cur',Ty,q1,q2,q3,hω g _ q4,q5,q6,fun j c hc=>?_⟩
    obtain ⟨u,r1,r2,r3,r4⟩:=q7 j c hc
    exact ⟨u,r1,r2,r3,fun n k cs E e=>hstep _ _ _ _ _ (r4 n k cs E e)⟩
  rcases hoo with ⟨hnil,hn0⟩|⟨g,cap,cur,q1,q2,q3,q4,q5,q6,q7,q8⟩|hfl
  rotate_left 2
  ·exact fin ω (fun _ _ e=>e) (fun g p e=>⟨h1.lt g p e,h1.mine g p e⟩) (.inr (.inr hfl))
  ·exact fin ω (fun _ _ e=>e) (fun g p e=>⟨h1.lt g p e,h1.mine g p e⟩) (.inl ⟨hnil,hn0⟩)
  ·refine fin (upd ω g (some (.tmp d))) ?_ ?_ (.inr (.inl ⟨g,cap,cur,q1, .inl (Nat.le_trans h.below.size q2),q3,q4,q5,q6,by simp [X8],q8⟩))
   ·intro g' p e
    simp only [X8]
    rw [if_neg (by have:=h.lt g' p e;omega)]
    exact e
   ·intro g' p e
    simp only [X8] at e
    split at e
    ·subst g'; exact ⟨(Array.getElem?_eq_some_iff.1 q3).1, .inl (Nat.le_trans h.below.size q2)⟩
    ·exact ⟨h1.lt g' p e,h1.mine g' p e⟩
theorem Xvh {ok:Nat→Bool} {hd:Bool} {id:Nat} {o:Oper} {E:Eff} (h:presE T hd id (σ.only ok) o.op=some E∨Zf T hd id (σ.only ok) o.op=some E) (hid:σ.freeB id=true):presE T hd id σ o.op=some E∨Zf T hd id σ o.op=some E:=by
 have hb:∀i bs,(σ.only ok).b i=some bs→σ.b i=some bs:=by
  intro i bs e
  simp only [PS.only] at e
  split at e
  ·exact e
  ·cases e
 have hm:∀i X,(σ.only ok).m i=some X→σ.m i=some X:=by
  intro i bs e
  simp only [PS.only] at e
  split at e
  ·exact e
  ·cases e
 rcases h with h|h
 ·exact .inl (Xbt h (fun _ _=>rfl) (fun _ _=>rfl) (fun _=>hm) (fun _=>hb) (fun _ i bs e=>⟨bs,hb i bs e,rfl⟩) hid)
 ·exact .inr (Xce h (fun _ _=>rfl) (fun _ _=>rfl) (fun _=>hm) (fun _=>hb) (fun _ i bs e=>⟨bs,hb i bs e,rfl⟩) hid)
theorem Vi {α:Type} : ∀(l:List (Nat×α)) (m:Nat→Option α),(l.map (·.1)).Nodup→∀x∈l,l.foldl (fun b x=>upd b x.1 (some x.2)) m x.1=some x.2
 |y :: l,m,hn,x,hx=>by
  rw [List.map_cons,List.nodup_cons] at hn
  rw [List.foldl_cons]
  rcases List.mem_cons.1 hx with rfl|hx
  ·rw [Va l _ hn.1];simp [X8]
  ·exact Vi l _ hn.2 x hx
where
 Va {α:Type} : ∀(l:List (Nat×α)) (m:Nat→Option α) {i:Nat},i∉l.map (·.1)→l.foldl (fun b x=>upd b x.1 (some x.2)) m i=m i
  | [],_,_,_=>rfl
  |y :: l,m,i,h=>by
   rw [List.foldl_cons,Va l _ (fun hh=>h (by simp at hh ⊢; exact .inr hh))]
   exact Xcb _ _ (fun e=>h (by simp [e]))
theorem Va {α:Type} : ∀(l:List (Nat×α)) (m:Nat→Option α) {i:Nat},i∉l.map (·.1)→l.foldl (fun b x=>upd b x.1 (some x.2)) m i=m i
 | [],_,_,_=>rfl
 |y :: l,m,i,h=>by
  rw [List.foldl_cons,Va l _ (fun hh=>h (by simp at hh ⊢; exact .inr hh))]
  exact Xcb _ _ (fun e=>h (by simp [e]))
theorem Ku {α:Type} (l:List (Nat×α)) (m:Nat→Option α) (hn:(l.map (·.1)).Nodup) {i:Nat} {y:α} (h:l.foldl (fun b x=>upd b x.1 (some x.2)) m i=some y):(i,y)∈l∨(i∉l.map (·.1)∧m i=some y):=by
 by_cases hi:i∈l.map (·.1)
 ·obtain ⟨x,hx,rfl⟩:=List.mem_map.1 hi
  rw [Vi l m hn x hx] at h
  cases h
  exact .inl hx
 ·rw [Va l m hi] at h;exact .inr ⟨hi,h⟩
theorem Xcx (h:RelG Φ0 W M Φ μ ω σ a w) (o:Oper) (hM:∀d,o.dst=some d→d < M) {f:FuncId} {args:List PV} {given res:List (Nat×List PV)} {gm rm:List (Nat×PMap)} {r:PV} (hc:X8k σ o.op=some (f,args)) (hp:Xe P f args given gm r res rm)
  (hg:∀x∈given,σ.b x.1=some x.2) (hgm:∀x∈gm,σ.m x.1=some x.2) (hnd:(X0 res rm).Nodup) (hs1:∀i∈given.map (·.1),i∈res.map (·.1)) (hs2:∀i∈gm.map (·.1),i∈rm.map (·.1)) (hnew:∀i∈X0 res rm,i∈X0 given gm∨(i < 1000000∧σ.freeB i=true)) {next:Act→World→Prop} {Q:Exit→Act→World→Prop}
  (hn:∀a' w',Rel Φ0 W M (σ.app o.dst ⟨r,res,none,rm⟩) a' w'→next a' w'):o.wp P a w next Q:=by
 obtain ⟨us,hargs,hrun⟩:=Xid h o hc hp.1
 unfold Oper.wp
 rw [hrun]
 show Calls P f _ w _
 have hrn:((res.map (·.1)).Nodup∧(rm.map (·.1)).Nodup)∧∀i,i∈res.map (·.1)→i∉rm.map (·.1):=by
  unfold X0 at hnd
  rw [List.nodup_append] at hnd
  exact ⟨⟨hnd.1,hnd.2.1⟩,fun i h1 h2=>hnd.2.2 i h1 i h2 rfl⟩
 have hsub:∀i∈X0 given gm,i∈X0 res rm:=by
  intro i hi
  rcases List.mem_append.1 hi with hi|hi
  ·exact List.mem_append.2 (.inl (hs1 i hi))
  ·exact List.mem_append.2 (.inr (hs2 i hi))
 refine (hp.2 Φ μ ω w _ h.imm h.glob hargs (fun x hx=>(h.box x.1 x.2 (hg x hx)).inB (fun _ _ _ _=>trivial)) (fun x hx=>(h.map x.1 x.2 (hgm x hx)).inB (fun _ _ _ _=>trivial)) h.lt).mono ?_
 rintro e w' ⟨v,Φ',μ',ω',rfl,k1,k2,k3,k4,k5,k6,k7,k8,k9,k10,k11⟩
 simp only
 have hfresh:∀i∈X0 res rm,i∉X0 given gm→i < 1000000∧σ.b i=none∧σ.m i=none∧μ i=none:=by
  intro i h1 h2
  rcases hnew i h1 with h3|⟨h3,h4⟩
  ·exact absurd h3 h2
  ·obtain ⟨h5,h6⟩:=PS.freeB_spec h4
   exact ⟨h3,h5,h6,h.gone i h5 h6⟩
 have hmine:∀g,X4a ω w (X0 given gm) g→Mine Φ0 W g:=by
  rintro g (h1|⟨id,-,q,-,h1⟩)
  ·exact .inl (Nat.le_trans h.below.size h1)
  ·exact h.mine g q h1
 have hold:∀b,Old Φ0 W b→b < w.heap.size∧¬Giv ω (X0 given gm) b:=by
  intro b hb
  refine ⟨Nat.lt_of_lt_of_le hb.1 h.below.size,fun hgv=>?_⟩
  have:=hmine b (.inr hgv)
  exact this.ne hb rfl
 let D:Nat:=o.dst.getD 0
 let μc:Nat→Option Nat:=fun i=>if i∈X0 res rm then μ' i else μ i
 have hμ1:∀i g,μ' i=some g→μc i=some g:=fun i g e=>by show (if _ then _ else _)=_;rw [if_pos (k7 i g e)];exact e
 have hμ2:∀i g,μ i=some g→μc i=some g:=by
  intro i g e
  show (if _ then _ else _)=_
  split
  ·rename_i hi
   by_cases hgi:i∈X0 given gm
   ·rw [k6 i hgi];exact e
   ·rw [(hfresh i hi hgi).2.2.2] at e;cases e
  ·exact e
 open Classical in
 let ωc:Nat→Option Who:=fun g=>if X4a ω w (X0 given gm) g then (match ω' g with|some (.tmp _)=>some (.tmp D)|x=>x) else ω g
 have hω1:∀g q,X4a ω w (X0 given gm) g→ω' g=some q→(∀t,q≠.tmp t)→ωc g=some q:=by
  intro g q h1 h2 h3
  show (if _ then _ else _)=_
  rw [if_pos h1,h2]
  cases q with
  |tmp t=>exact absurd rfl (h3 t)
  |_=>rfl
 have hω2:∀g q,ω g=some q→(∀id∈X0 given gm,¬OfId id q)→ωc g=some q∧¬Giv ω (X0 given gm) g∧g < w.heap.size:=by
  intro g q h1 h2
  have h3:¬Giv ω (X0 given gm) g:=by
   rintro ⟨id,hid,q',hq',e⟩
   rw [h1] at e;cases e
   exact h2 id hid hq'
  have h4:=h.lt g q h1
  refine ⟨?_,h3,h4⟩
  show (if _ then _ else _)=_
  rw [if_neg (by rintro (h5|h5);omega;exact h3 h5)]
  exact h1
 have hkeep:∀S:Who→Prop,(∀q,S q→∀id∈X0 given gm,¬OfId id q)→X6r S Φ Φ' ω ωc w w':=by
  intro S hS q hq g e
  obtain ⟨h1,h2,h3⟩:=hω2 g q e (hS q hq)
  exact ⟨k5.block g ⟨h3,h2⟩,fun j=>k4 g j h3 h2,h1⟩
 have hlt:∀g p,ωc g=some p→g < w'.heap.size∧Mine Φ0 W g:=by
  intro g p e
  by_cases h1:X4a ω w (X0 given gm) g
  ·refine ⟨?_,hmine g h1⟩
   have e' : (match ω' g with|some (.tmp _)=>some (.tmp D)|x=>x)=some p:=by
    have:ωc g=(match ω' g with|some (.tmp _)=>some (.tmp D)|x=>x):=by show (if _ then _ else _)=_;rw [if_pos h1]
    rw [←this];exact e
   cases hw:ω' g with
   |none=>rw [hw] at e'; cases e'
   |some q=>exact (k10 g q hw).1
  ·have:ωc g=ω g:=by show (if _ then _ else _)=_;rw [if_neg h1]
   rw [this] at e
   exact ⟨Nat.lt_of_lt_of_le (h.lt g p e) k5.size,h.mine g p e⟩
 have hbget:∀i bs,(res.foldl (fun b x=>upd b x.1 (some x.2)) σ.b) i=some bs→(i,bs)∈res∨(i∉X0 res rm∧σ.b i=some bs):=by
  intro i bs e
  rcases Ku res σ.b hrn.1.1 e with h1|⟨h1,h2⟩
  ·exact .inl h1
  ·right
   refine ⟨fun hi=>?_,h2⟩
   rcases List.mem_append.1 hi with hi' | hi'
   ·exact h1 hi'
   ·by_cases hgi:i∈X0 given gm
    ·rcases List.mem_append.1 hgi with hg1|hg1
     ·exact h1 (hs1 i hg1)
     ·obtain ⟨x,hx,rfl⟩:=List.mem_map.1 hg1
      exact h.disj h2 (hgm x hx) rfl
    ·rw [(hfresh i hi hgi).2.1] at h2;cases h2
 have hmget:∀i X,(rm.foldl (fun b x=>upd b x.1 (some x.2)) σ.m) i=some X→(i,X)∈rm∨(i∉X0 res rm∧σ.m i=some X):=by
  intro i X e
  rcases Ku rm σ.m hrn.1.2 e with h1|⟨h1,h2⟩
  ·exact .inl h1
  ·right
   refine ⟨fun hi=>?_,h2⟩
   rcases List.mem_append.1 hi with hi' | hi'
   ·by_cases hgi:i∈X0 given gm
    ·rcases List.mem_append.1 hgi with hg1|hg1
     ·obtain ⟨x,hx,rfl⟩:=List.mem_map.1 hg1
      exact h.disj (hg x hx) h2 rfl
     ·exact h1 (hs2 i hg1)
    ·rw [(hfresh i hi hgi).2.2.1] at h2;cases h2
   ·exact h1 hi'
 have hne:∀i,i∉X0 res rm→∀q,OfId i q→∀id∈X0 given gm,¬OfId id q:=by
  rintro i hi q hq id hid hq'
  have:id=i:=by
   rcases hq with rfl|⟨j,rfl⟩
   ·rcases hq' with e|⟨j,e⟩<;>cases e;rfl
   ·rcases hq' with e|⟨j,e⟩<;>cases e;rfl
  subst this
  exact hi (hsub _ hid)
 have hres:∀i,X6r (OfId i) Φ' Φ' ω' ωc w' w':=by
  intro i q hq g e
  exact ⟨rfl,fun _=>rfl,hω1 g q (k10 g q e).2 e (fun t=>by rintro rfl;rcases hq with hq|⟨j,hq⟩<;>cases hq)⟩
 have hin:∀i g q,OfId i q→ω' g=some q→Mine Φ0 W g:=fun i g q _ e=>hmine g (k10 g q e).2
 have base:RelG Φ0 W M Φ' μc ωc { t:=σ.t,b:=res.foldl (fun b x=>upd b x.1 (some x.2)) σ.b,m:=rm.foldl (fun b x=>upd b x.1 (some x.2)) σ.m } a w':=by
  refine ⟨h.below.trans (k5.mono fun k hk=>hold k hk),h.defers,h.size,k2,fun b o hb=>(k4 b o (hold b hb).1 (hold b hb).2).trans (h.old b o hb),fun t=>(h.tmps t).mono k3 hμ2,fun t n k cs E e=>(h.own t n k cs E e).step (hkeep (fun q=>q = .tmp t) (by rintro q rfl id _ (e|⟨j,e⟩)<;>cases e) _ rfl),fun i bs e=>?_,fun i eb em=>?_,fun g p e=>(hlt g p e).1,h.gmu,fun i g e hi=>?_,fun b o u e=>⟨k3 _ _ _ (h.ext b o u e).1,(h.ext b o u e).2⟩,fun i X e=>?_,fun g p e=>(hlt g p e).2⟩
  ·rcases hbget i bs e with h1|⟨h1,h2⟩
   ·exact ((k8 _ h1).inB (fun g q hq e=>hin i g q hq e)).step (fun _ _ _ e=>e) hμ1 (hres i)
   ·exact (h.box i bs h2).step k3 hμ2 (hkeep _ (hne i h1))
  ·simp only at eb em
   have hi:i∉X0 res rm:=by
    intro hi
    rcases List.mem_append.1 hi with hi|hi
    ·obtain ⟨x,hx,rfl⟩:=List.mem_map.1 hi
     rw [Vi res σ.b hrn.1.1 x hx] at eb;cases eb
    ·obtain ⟨x,hx,rfl⟩:=List.mem_map.1 hi
     rw [Vi rm σ.m hrn.1.2 x hx] at em;cases em
   have h1:i∉res.map (·.1):=fun hh=>hi (List.mem_append.2 (.inl hh))
   have h2:i∉rm.map (·.1):=fun hh=>hi (List.mem_append.2 (.inr hh))
   rw [Va res σ.b h1] at eb
   rw [Va rm σ.m h2] at em
   show (if _ then _ else _)=_
   rw [if_neg hi]
   exact h.gone i eb em
  ·by_cases hir:i∈X0 res rm
   ·by_cases hgi:i∈X0 given gm
    ·have:μc i=μ' i:=by show (if _ then _ else _)=_;rw [if_pos hir]
     rw [this,k6 i hgi]
     refine h.kmu i g e ?_
     rcases List.mem_append.1 hgi with h1|h1
     ·obtain ⟨x,hx,rfl⟩:=List.mem_map.1 h1
      left;rw [hg x hx];simp
     ·obtain ⟨x,hx,rfl⟩:=List.mem_map.1 h1
      right;rw [hgm x hx];simp
    ·have:=(hfresh i hir hgi).1
     have:=h.gmu i g e
     omega
   ·have h1:i∉res.map (·.1):=fun hh=>hir (List.mem_append.2 (.inl hh))
    have h2:i∉rm.map (·.1):=fun hh=>hir (List.mem_append.2 (.inr hh))
    simp only at hi
    rw [Va res σ.b h1,Va rm σ.m h2] at hi
    exact hμ2 i g (h.kmu i g e hi)
  ·rcases hmget i X e with h1|⟨h1,h2⟩
   ·exact ((k9 _ h1).inB (fun g q hq e=>hin i g q hq e)).step (fun _ _ _ e=>e) hμ1 (hres i)
   ·exact (h.map i X h2).step k3 hμ2 (hkeep _ (hne i h1))
 have hrep:Rep Φ' μc r v:=k1.mono (fun _ _ _ e=>e) hμ1
 refine hn _ _ ?_
 cases hd:o.dst with
 |none=>exact ⟨Φ',μc,ωc,base⟩
 |some d=>
  have hM':=hM d hd
  by_cases ho:r.ownB=false
  ·exact ⟨Φ',μc,ωc,base.put hM' hrep ho⟩
  ·obtain ⟨n,k,cs,E,rfl⟩:∃n k cs E,r = .sl n k cs (some E):=by
    cases r with
    |sl n k cs own=>cases own with
     |none=>exact absurd rfl ho
     |some E=>exact ⟨n,k,cs,E,rfl⟩
    |_=>exact absurd rfl ho
   have hoo:=k11 n k cs E rfl
   have hD:D=d:=by show o.dst.getD 0=d;rw [hd];rfl
   have hown:Ki (Mine Φ0 W) Φ' ωc w' (.tmp d) n k E v:=by
    rcases hoo with q|⟨g,cap,cur,q1,q2,q3,q4,q5,q6,q7,q8⟩|q
    ·exact .inl q
    ·refine .inr (.inl ⟨g,cap,cur,q1,hmine g q2,q3,q4,q5,q6,?_,q8⟩)
     show (if _ then _ else _)=_
     rw [if_pos q2,q7,hD]
    ·exact .inr (.inr q)
   have hd' : d < a.tmps.size:=by rw [h.size];exact hM'
   refine ⟨Φ',μc,ωc,{ base with defers:=base.defers,size:=by simp [Act.put,h.size],tmps:=fun t=>?_,own:=fun t n' k' cs' E' e=>?_ }⟩
   ·rw [K5 _ _ _ _ hd']
    by_cases ht:t=d
    ·simp only [PS.app,X8,if_pos ht];exact hrep
    ·simp only [PS.app,X8,if_neg ht];exact base.tmps t
   ·rw [K5 _ _ _ _ hd']
    by_cases ht:t=d
    ·simp only [PS.app,X8,if_pos ht] at e ⊢
     cases e
     subst ht;exact hown
    ·simp only [PS.app,X8,if_neg ht] at e ⊢
     exact base.own t n' k' cs' E' e
theorem Xf2 (h:RelG Φ0 W M Φ μ ω σ a w) (o:Oper) {c} {x:Operand} {f:FuncId} (hop:o.op = .call c) (hcal:c.callee = .value x) (hx:pev σ x = .fn f []) (hf:f < 1000000) (hcb:X28 P f=true):(execOp a.eval o).run P w = .ok (.enter f (c.args.toList.map a.eval).toArray) w:=by
 have hxr:=h.ev x
 rw [hx] at hxr
 obtain ⟨us,hv,hl⟩:=hxr.fn_inv
 have hu:us = []:=List.eq_nil_of_length_eq_zero (by simpa using hl.1)
 subst hu
 unfold fnV at hv
 rw [if_pos hf] at hv
 simp only [execOp,hop,resolve,hcal,hv,Deferred.ofValue,Sem.run_bind,Sem.run_pure,Result.andThen_ok,invoke]
 have e:(#[]:Array Value) ++ c.args.map a.eval ++ (([]:List Value).toArray)=(c.args.toList.map a.eval).toArray:=by
  apply Array.ext'
  simp
 rw [e,X31 hcb]
theorem Xbk (h:RelG Φ0 W M Φ μ ω σ a w) (o:Oper) (hM:∀d,o.dst=some d→d < M) {c} {x:Operand} {f:FuncId} (hop:o.op = .call c) (hcal:c.callee = .value x) (hx:pev σ x = .fn f []) (hf:f < 1000000) {p s n k:Nat} {cs:List PV} {E:TypeId} (hs:σ.t s = .sl n k cs (some E)) (hps:c.args.toList[p]? = some (.tmp s))
  {given res:List (Nat×List PV)} {gm rm:List (Nat×PMap)} {r:PV} (hp:X27 P f ((c.args.toList.map (pev σ)).set p (.sl n k cs (some E))) given gm r res rm)
  (hg:∀x∈given,σ.b x.1=some x.2) (hgm:∀x∈gm,σ.m x.1=some x.2) (hnd:(X0 res rm).Nodup) (hs1:∀i∈given.map (·.1),i∈res.map (·.1)) (hs2:∀i∈gm.map (·.1),i∈rm.map (·.1)) (hnew:∀i∈X0 res rm,i∈X0 given gm∨(i < 1000000∧σ.freeB i=true)) {next:Act→World→Prop} {Q:Exit→Act→World→Prop}
  (hn:∀a' w',Rel Φ0 W M (σ.app o.dst ⟨r,res,some s,rm⟩) a' w'→next a' w'):o.wp P a w next Q:=by
 have hrun:=Xf2 h o hop hcal hx hf hp.1
 unfold Oper.wp
 rw [hrun]
 show Calls P f _ w _
 let args:List PV:=(c.args.toList.map (pev σ)).set p (.sl n k cs (some E))
 have hpl:p < (c.args.toList.map (pev σ)).length:=by have:=(List.getElem?_eq_some_iff.1 hps).1;simpa using this
 have hargp:args[p]? = some (.sl n k cs (some E)):=by show (List.set _ _ _)[p]? = _;rw [List.getElem?_set,if_pos rfl,if_pos hpl]
 have hargn:∀j q,j≠p→args[j]? = some q→q.ownB=false:=fun j q hj e=>by
  have e' : ((c.args.toList.map (pev σ)).set p (.sl n k cs (some E)))[j]? = some q:=e
  rw [List.getElem?_set,if_neg (fun h=>hj h.symm),M_] at e'
  obtain ⟨y,-,rfl⟩:=Option.map_eq_some_iff.1 e'
  exact X3x σ y
 have hA:RepL Φ μ args (c.args.toList.map a.eval):=by
  refine ⟨by show _=List.length (List.set _ _ _);simp,fun j q u h1 h2=>?_⟩
  rw [M_] at h2
  obtain ⟨y,hy,rfl⟩:=Option.map_eq_some_iff.1 h2
  by_cases hj:j=p
  ·subst hj
   rw [hargp] at h1
   rw [hps] at hy
   cases h1;cases hy
   have:=h.tmps s
   rw [hs] at this
   exact this
  ·have e' : ((c.args.toList.map (pev σ)).set p (.sl n k cs (some E)))[j]? = some q:=h1
   rw [List.getElem?_set,if_neg (fun h=>hj h.symm),M_,hy] at e'
   cases e'
   exact h.ev y
 let ω0:Nat→Option Who:=fun g=>match ω g with
  |some (.tmp t)=>if t=s then some (.tmp p) else none
  |y=>y
 have hω0:∀g q,ω g=some q→(∀t,q≠.tmp t)→ω0 g=some q:=fun g q e hq=>by
  show (match ω g with|some (.tmp t)=>if t=s then some (Who.tmp p) else none|y=>y)=_
  rw [e]
  cases q with
  |tmp t=>exact absurd rfl (hq t)
  |_=>rfl
 have hω0' : ∀g q,ω0 g=some q→(ω g=some q∧∀t,q≠.tmp t)∨(q = .tmp p∧ω g=some (.tmp s)):=fun g q e=>by
  have e' : (match ω g with|some (.tmp t)=>if t=s then some (Who.tmp p) else none|y=>y)=some q:=e
  cases hw:ω g with
  |none=>rw [hw] at e'; cases e'
  |some q' =>
   rw [hw] at e'
   cases q' with
   |tmp t=>
    simp only at e'
    split at e'
    ·rename_i ht;subst ht;cases e'; exact .inr ⟨rfl,rfl⟩
    ·cases e'
   |_=>cases e'; exact .inl ⟨rfl,fun t ht=>by cases ht⟩
 have hkb:∀i,X6r (OfId i) Φ Φ ω ω0 w w:=fun i q hq g e=>⟨rfl,fun _=>rfl,hω0 g q e (fun t ht=>by subst ht;rcases hq with hq|⟨j,hq⟩<;>cases hq)⟩
 have hrn:((res.map (·.1)).Nodup∧(rm.map (·.1)).Nodup)∧∀i,i∈res.map (·.1)→i∉rm.map (·.1):=by
  unfold X0 at hnd
  rw [List.nodup_append] at hnd
  exact ⟨⟨hnd.1,hnd.2.1⟩,fun i h1 h2=>hnd.2.2 i h1 i h2 rfl⟩
 have hsub:∀i∈X0 given gm,i∈X0 res rm:=by
  intro i hi
  rcases List.mem_append.1 hi with hi|hi
  ·exact List.mem_append.2 (.inl (hs1 i hi))
  ·exact List.mem_append.2 (.inr (hs2 i hi))
 refine (hp.2 Φ μ ω0 w _ h.imm h.glob hA (fun x hx=>((h.box x.1 x.2 (hg x hx)).inB (fun _ _ _ _=>trivial)).step (fun _ _ _ e=>e) (fun _ _ e=>e) (hkb x.1)) (fun x hx=>((h.map x.1 x.2 (hgm x hx)).inB (fun _ _ _ _=>trivial)).step (fun _ _ _ e=>e) (fun _ _ e=>e) (hkb x.1)) (fun g q e=>?_) (fun i n' k' cs' E' v' h1 h2=>?_)).mono ?_
 ·rcases hω0' g q e with ⟨e',-⟩|⟨-,e'⟩<;>exact h.lt g _ e'
 ·by_cases hi:i=p
  ·subst hi
   rw [hargp] at h1
   cases h1
   rw [M_,hps] at h2
   cases h2
   have ho:=h.own s n k cs E hs
   rcases ho with q|⟨g,cap,cur,q1,q2,q3,q4,q5,q6,q7,q8⟩|q
   ·exact .inl q
   ·refine .inr (.inl ⟨g,cap,cur,q1,trivial,q3,q4,q5,q6,?_,q8⟩)
    show (match ω g with|some (.tmp t)=>if t=s then some (Who.tmp i) else none|y=>y)=_
    rw [q7]
    simp
   ·exact .inr (.inr q)
  ·have:=hargn i _ hi h1
   simp [PV.ownB] at this
 rintro e w' ⟨v,Φ',μ',ω',rfl,k1,k2,k3,k4,k5,k6,k7,k8,k9,k10,k11⟩
 simp only
 have hfresh:∀i∈X0 res rm,i∉X0 given gm→i < 1000000∧σ.b i=none∧σ.m i=none∧μ i=none:=by
  intro i h1 h2
  rcases hnew i h1 with h3|⟨h3,h4⟩
  ·exact absurd h3 h2
  ·obtain ⟨h5,h6⟩:=PS.freeB_spec h4
   exact ⟨h3,h5,h6,h.gone i h5 h6⟩
 have hgiv:∀g,GivO ω0 (X0 given gm) args g→Giv ω (X0 given gm) g∨ω g=some (.tmp s):=by
  rintro g (⟨id,hid,q,hq,h1⟩|⟨i,y,h1,h2,h3⟩)
  ·rcases hω0' g q h1 with ⟨e',-⟩|⟨rfl,-⟩
   ·exact .inl ⟨id,hid,q,hq,e'⟩
   ·rcases hq with hq|⟨j,hq⟩<;>cases hq
  ·rcases hω0' g _ h3 with ⟨e',hh⟩|⟨-,e'⟩
   ·exact absurd rfl (hh i)
   ·exact .inr e'
 have hmine:∀g,NewO ω0 w (X0 given gm) args g→Mine Φ0 W g:=by
  rintro g (h1|h1)
  ·exact .inl (Nat.le_trans h.below.size h1)
  ·rcases hgiv g h1 with ⟨id,-,q,-,h1⟩|h1
   ·exact h.mine g q h1
   ·exact h.mine g _ h1
 have hold:∀b,Old Φ0 W b→b < w.heap.size∧¬GivO ω0 (X0 given gm) args b:=by
  intro b hb
  refine ⟨Nat.lt_of_lt_of_le hb.1 h.below.size,fun hgv=>?_⟩
  have:=hmine b (.inr hgv)
  exact this.ne hb rfl
 let D:Nat:=o.dst.getD 0
 let μc:Nat→Option Nat:=fun i=>if i∈X0 res rm then μ' i else μ i
 have hμ1:∀i g,μ' i=some g→μc i=some g:=fun i g e=>by show (if _ then _ else _)=_;rw [if_pos (k7 i g e)];exact e
 have hμ2:∀i g,μ i=some g→μc i=some g:=by
  intro i g e
  show (if _ then _ else _)=_
  split
  ·rename_i hi
   by_cases hgi:i∈X0 given gm
   ·rw [k6 i hgi];exact e
   ·rw [(hfresh i hi hgi).2.2.2] at e;cases e
  ·exact e
 open Classical in
 let ωc:Nat→Option Who:=fun g=>if NewO ω0 w (X0 given gm) args g then (match ω' g with|some (.tmp _)=>some (.tmp D)|x=>x) else ω g
 have hω1:∀g q,NewO ω0 w (X0 given gm) args g→ω' g=some q→(∀t,q≠.tmp t)→ωc g=some q:=by
  intro g q h1 h2 h3
  show (if _ then _ else _)=_
  rw [if_pos h1,h2]
  cases q with
  |tmp t=>exact absurd rfl (h3 t)
  |_=>rfl
 have hω2:∀g q,ω g=some q→(∀id∈X0 given gm,¬OfId id q)→q≠.tmp s→ωc g=some q∧¬GivO ω0 (X0 given gm) args g∧g < w.heap.size:=by
  intro g q h1 h2 hqs
  have h3:¬GivO ω0 (X0 given gm) args g:=by
   intro hgv
   rcases hgiv g hgv with ⟨id,hid,q',hq',e⟩|e
   ·rw [h1] at e;cases e
    exact h2 id hid hq'
   ·rw [h1] at e;cases e
    exact hqs rfl
  have h4:=h.lt g q h1
  refine ⟨?_,h3,h4⟩
  show (if _ then _ else _)=_
  rw [if_neg (by rintro (h5|h5);omega;exact h3 h5)]
  exact h1
 have hkeep:∀S:Who→Prop,(∀q,S q→(∀id∈X0 given gm,¬OfId id q)∧q≠.tmp s)→X6r S Φ Φ' ω ωc w w':=by
  intro S hS q hq g e
  obtain ⟨h1,h2,h3⟩:=hω2 g q e (hS q hq).1 (hS q hq).2
  exact ⟨k5.block g ⟨h3,h2⟩,fun j=>k4 g j h3 h2,h1⟩
 have hlt:∀g p,ωc g=some p→g < w'.heap.size∧Mine Φ0 W g:=by
  intro g p e
  by_cases h1:NewO ω0 w (X0 given gm) args g
  ·refine ⟨?_,hmine g h1⟩
   have e' : (match ω' g with|some (.tmp _)=>some (.tmp D)|x=>x)=some p:=by
    have:ωc g=(match ω' g with|some (.tmp _)=>some (.tmp D)|x=>x):=by show (if _ then _ else _)=_;rw [if_pos h1]
    rw [←this];exact e
   cases hw:ω' g with
   |none=>rw [hw] at e'; cases e'
   |some q=>exact (k10 g q hw).1
  ·have:ωc g=ω g:=by show (if _ then _ else _)=_;rw [if_neg h1]
   rw [this] at e
   exact ⟨Nat.lt_of_lt_of_le (h.lt g p e) k5.size,h.mine g p e⟩
 have hbget:∀i bs,(res.foldl (fun b x=>upd b x.1 (some x.2)) σ.b) i=some bs→(i,bs)∈res∨(i∉X0 res rm∧σ.b i=some bs):=by
  intro i bs e
  rcases Ku res σ.b hrn.1.1 e with h1|⟨h1,h2⟩
  ·exact .inl h1
  ·right
   refine ⟨fun hi=>?_,h2⟩
   rcases List.mem_append.1 hi with hi' | hi'
   ·exact h1 hi'
   ·by_cases hgi:i∈X0 given gm
    ·rcases List.mem_append.1 hgi with hg1|hg1
     ·exact h1 (hs1 i hg1)
     ·obtain ⟨x,hx,rfl⟩:=List.mem_map.1 hg1
      exact h.disj h2 (hgm x hx) rfl
    ·rw [(hfresh i hi hgi).2.1] at h2;cases h2
 have hmget:∀i X,(rm.foldl (fun b x=>upd b x.1 (some x.2)) σ.m) i=some X→(i,X)∈rm∨(i∉X0 res rm∧σ.m i=some X):=by
  intro i X e
  rcases Ku rm σ.m hrn.1.2 e with h1|⟨h1,h2⟩
  ·exact .inl h1
  ·right
   refine ⟨fun hi=>?_,h2⟩
   rcases List.mem_append.1 hi with hi' | hi'
   ·by_cases hgi:i∈X0 given gm
    ·rcases List.mem_append.1 hgi with hg1|hg1
     ·obtain ⟨x,hx,rfl⟩:=List.mem_map.1 hg1
      exact h.disj (hg x hx) h2 rfl
     ·exact h1 (hs2 i hg1)
    ·rw [(hfresh i hi hgi).2.2.1] at h2;cases h2
   ·exact h1 hi'
 have hne:∀i,i∉X0 res rm→∀q,OfId i q→(∀id∈X0 given gm,¬OfId id q)∧q≠.tmp s:=by
  rintro i hi q hq
  refine ⟨fun id hid hq' => ?_,fun e=>by subst e;rcases hq with hq|⟨j,hq⟩<;>cases hq⟩
  have:id=i:=by
   rcases hq with rfl|⟨j,rfl⟩
   ·rcases hq' with e|⟨j,e⟩<;>cases e;rfl
   ·rcases hq' with e|⟨j,e⟩<;>cases e;rfl
  subst this
  exact hi (hsub _ hid)
 have hres:∀i,X6r (OfId i) Φ' Φ' ω' ωc w' w':=by
  intro i q hq g e
  exact ⟨rfl,fun _=>rfl,hω1 g q (k10 g q e).2 e (fun t=>by rintro rfl;rcases hq with hq|⟨j,hq⟩<;>cases hq)⟩
 have hin:∀i g q,OfId i q→ω' g=some q→Mine Φ0 W g:=fun i g q _ e=>hmine g (k10 g q e).2
 have base:RelG Φ0 W M Φ' μc ωc { t:=upd σ.t s (σ.t s).bare,b:=res.foldl (fun b x=>upd b x.1 (some x.2)) σ.b,m:=rm.foldl (fun b x=>upd b x.1 (some x.2)) σ.m } a w':=by
  refine ⟨h.below.trans (k5.mono fun k hk=>hold k hk),h.defers,h.size,k2,fun b o hb=>(k4 b o (hold b hb).1 (hold b hb).2).trans (h.old b o hb),fun t=>?_,fun t n k cs E e=>?_,fun i bs e=>?_,fun i eb em=>?_,fun g p e=>(hlt g p e).1,h.gmu,fun i g e hi=>?_,fun b o u e=>⟨k3 _ _ _ (h.ext b o u e).1,(h.ext b o u e).2⟩,fun i X e=>?_,fun g p e=>(hlt g p e).2⟩
  ·simp only [X8]
   split
   ·rename_i ht;subst ht;exact ((h.tmps t).mono k3 hμ2).bare
   ·exact (h.tmps t).mono k3 hμ2
  ·simp only [X8] at e
   split at e
   ·have:=PV.bare_own (σ.t s);rw [e] at this;simp [PV.ownB] at this
   ·rename_i ht
    exact (h.own t n k cs E e).step (hkeep (fun q=>q = .tmp t) (by rintro q rfl;exact ⟨fun id _ hh=>(by rcases hh with e|⟨j,e⟩<;>cases e),fun hh=>(by cases hh;exact ht rfl)⟩) _ rfl)
  ·rcases hbget i bs e with h1|⟨h1,h2⟩
   ·exact ((k8 _ h1).inB (fun g q hq e=>hin i g q hq e)).step (fun _ _ _ e=>e) hμ1 (hres i)
   ·exact (h.box i bs h2).step k3 hμ2 (hkeep _ (hne i h1))
  ·simp only at eb em
   have hi:i∉X0 res rm:=by
    intro hi
    rcases List.mem_append.1 hi with hi|hi
    ·obtain ⟨x,hx,rfl⟩:=List.mem_map.1 hi
     rw [Vi res σ.b hrn.1.1 x hx] at eb;cases eb
    ·obtain ⟨x,hx,rfl⟩:=List.mem_map.1 hi
     rw [Vi rm σ.m hrn.1.2 x hx] at em;cases em
   have h1:i∉res.map (·.1):=fun hh=>hi (List.mem_append.2 (.inl hh))
   have h2:i∉rm.map (·.1):=fun hh=>hi (List.mem_append.2 (.inr hh))
   rw [Va res σ.b h1] at eb
   rw [Va rm σ.m h2] at em
   show (if _ then _ else _)=_
   rw [if_neg hi]
   exact h.gone i eb em
  ·by_cases hir:i∈X0 res rm
   ·by_cases hgi:i∈X0 given gm
    ·have:μc i=μ' i:=by show (if _ then _ else _)=_;rw [if_pos hir]
     rw [this,k6 i hgi]
     refine h.kmu i g e ?_
     rcases List.mem_append.1 hgi with h1|h1
     ·obtain ⟨x,hx,rfl⟩:=List.mem_map.1 h1
      left;rw [hg x hx];simp
     ·obtain ⟨x,hx,rfl⟩:=List.mem_map.1 h1
      right;rw [hgm x hx];simp
    ·have:=(hfresh i hir hgi).1
     have:=h.gmu i g e
     omega
   ·have h1:i∉res.map (·.1):=fun hh=>hir (List.mem_append.2 (.inl hh))
    have h2:i∉rm.map (·.1):=fun hh=>hir (List.mem_append.2 (.inr hh))
    simp only at hi
    rw [Va res σ.b h1,Va rm σ.m h2] at hi
    exact hμ2 i g (h.kmu i g e hi)
  ·rcases hmget i X e with h1|⟨h1,h2⟩
   ·exact ((k9 _ h1).inB (fun g q hq e=>hin i g q hq e)).step (fun _ _ _ e=>e) hμ1 (hres i)
   ·exact (h.map i X h2).step k3 hμ2 (hkeep _ (hne i h1))
 have hrep:Rep Φ' μc r v:=k1.mono (fun _ _ _ e=>e) hμ1
 refine hn _ _ ?_
 cases hd:o.dst with
 |none=>exact ⟨Φ',μc,ωc,base⟩
 |some d=>
  have hM':=hM d hd
  by_cases ho:r.ownB=false
  ·exact ⟨Φ',μc,ωc,base.put hM' hrep ho⟩
  ·obtain ⟨n,k,cs,E,rfl⟩:∃n k cs E,r = .sl n k cs (some E):=by
    cases r with
    |sl n k cs own=>cases own with
     |none=>exact absurd rfl ho
     |some E=>exact ⟨n,k,cs,E,rfl⟩
    |_=>exact absurd rfl ho
   have hoo:=k11 n k cs E rfl
   have hD:D=d:=by show o.dst.getD 0=d;rw [hd];rfl
   have hown:Ki (Mine Φ0 W) Φ' ωc w' (.tmp d) n k E v:=by
    rcases hoo with q|⟨g,cap,cur,q1,q2,q3,q4,q5,q6,q7,q8⟩|q
    ·exact .inl q
    ·refine .inr (.inl ⟨g,cap,cur,q1,hmine g q2,q3,q4,q5,q6,?_,q8⟩)
     show (if _ then _ else _)=_
     rw [if_pos q2,q7,hD]
    ·exact .inr (.inr q)
   have hd' : d < a.tmps.size:=by rw [h.size];exact hM'
   refine ⟨Φ',μc,ωc,{ base with defers:=base.defers,size:=by simp [Act.put,h.size],tmps:=fun t=>?_,own:=fun t n' k' cs' E' e=>?_ }⟩
   ·rw [K5 _ _ _ _ hd']
    by_cases ht:t=d
    ·simp only [PS.app,X8,if_pos ht];exact hrep
    ·have:=base.tmps t
     simp only [PS.app,X8,if_neg ht] at this ⊢; exact this
   ·rw [K5 _ _ _ _ hd']
    by_cases ht:t=d
    ·simp only [PS.app,X8,if_pos ht] at e ⊢
     cases e
     subst ht;exact hown
    ·have:=base.own t n' k' cs' E'
     simp only [PS.app,X8,if_neg ht] at e this ⊢
     exact this e
theorem X9g {α:Type} : ∀(l:List (Nat×α)) (m:Nat→Option α),(∀x∈l,m x.1=some x.2)→l.foldl (fun b x=>upd b x.1 (some x.2)) m=m
 | [],m,_=>rfl
 |x :: l,m,h=>by
  have e:upd m x.1 (some x.2)=m:=by
   funext j
   simp only [X8]
   split
   ·rename_i e;rw [e,h x (List.mem_cons_self ..)]
   ·rfl
  rw [List.foldl_cons,e]
  exact X9g l m fun y hy=>h y (List.mem_cons_of_mem _ hy)
theorem Xxf {d:Option Nat} {r:PV} {given:List (Nat×List PV)} {gm:List (Nat×PMap)} (h1:∀x∈given,σ.b x.1=some x.2) (h2:∀x∈gm,σ.m x.1=some x.2):σ.app d ⟨r,given,none,gm⟩=σ.app d ⟨r,[],none,[]⟩:=by
 have e1:=X9g given σ.b h1
 have e2:=X9g gm σ.m h2
 cases d<;>simp only [PS.app,List.foldl_nil,e1,e2]
theorem X1w (hT:T=Kf P) {ops:Array Oper} (hall:∀(j:Nat) o,ops[j]? = some o→dstB M o=true) {base:Nat} (hbase:base+ops.size≤1000000) {ok:Nat→Nat→Bool} {i:Nat} {o:Oper} (hio:ops[i]? = some o) {K:PS→Prop} {K' : Act→World→Prop} {Q' : Exit→Act→World→Prop}
  (hK:∀σ a w,K σ→Rel Φ0 W M σ a w→K' a w) (h:PWop P T ops base ok i o K σ) (hr:Rel Φ0 W M σ a w) :
  if Region.wanted o (yielded ops a.tmps) then o.wp P a w K' Q' else K' (a.put o.dst undef) w:=by
 obtain ⟨Φ,μ,ω,hg⟩:=hr
 have hd:=X5a (hall i o hio)
 have hM:∀(j d:Nat),(ops[j]?).bind (·.dst)=some d→d < M:=by
  intro j d e
  obtain ⟨o',ho',e'⟩:=Option.bind_eq_some_iff.1 e
  exact (X5a (hall j o' ho')).1 d e'
 obtain ⟨E,hm,hk⟩:=h
 rcases hm with ⟨hgd,rfl⟩|⟨hgd,hm⟩
 ·rw [X32 hg hM hgd]
  simp only [Bool.false_eq_true,if_false]
  exact hK _ _ _ hk ⟨Φ,μ,ω,hg.skip hd.1⟩
 ·rw [X32 hg hM hgd]
  simp only [if_true]
  rcases hm with ⟨hE,hid⟩|⟨f,args,r,d,hdd,hc,hp,rfl⟩|⟨f,args,given,gm,r,res,rm,hc,hp,hA,hB,hN,rfl,-⟩|⟨-,hS⟩|⟨f,args,given,gm,r,hc,hp,hA,hB,hN,rfl,-⟩|⟨c,x,f,p,s,n,k,cs,Et,given,gm,r,res,rm,hop,hcal,hx,hf,hs,hps,hp,hA,hB,hN,rfl,-⟩
  ·have hidl:base+i < 1000000:=by have:=(Array.getElem?_eq_some_iff.1 hio).1;omega
   obtain ⟨nx,v,w',r1,r2,r3⟩:Does P Φ0 W M a w o (σ.app o.dst E):=by
    rcases Xvh hE hid with hE|hE
    ·exact Xlv hT hg o hidl hE hd.1 hd.2
    ·exact Xlj hT hg o hidl hE hd.1 hd.2
   unfold Oper.wp
   rw [r1]
   rcases r2 with rfl|⟨rfl,rfl⟩
   ·exact hK _ _ _ hk r3
   ·exact hK _ _ _ hk r3
  ·exact Xqh hg o hdd (hd.1 d hdd) hc hp (fun r' a' w' hr' hrel=>by subst hr'; exact hK _ _ _ hk (by rw [hdd];exact hrel))
  ·obtain ⟨n1,n2,n3,n4⟩:=X3r hN
   exact Xcx hg o hd.1 hc hp (fun x hx=>(hA.mem x hx).2) (fun x hx=>(hB.mem x hx).2) n1 n2 n3 (fun i hi=>(n4 i hi).imp_right (fun hh=>hh.2)) (fun a' w' hrel=>hK _ _ _ hk hrel)
  ·exact hS _ _ _ _ _ hd.1 ⟨Φ,μ,ω,hg⟩ _ _ (fun a' w' hrel=>hK _ _ _ hk hrel)
  ·refine Xcx hg o hd.1 hc hp (fun x hx=>(hA.mem x hx).2) (fun x hx=>(hB.mem x hx).2) (X3y hN) (fun i hi=>hi) (fun i hi=>hi) (fun i hi=>.inl hi) (fun a' w' hrel=>hK _ _ _ hk ?_)
   rw [←Xxf (fun x hx=>(hA.mem x hx).2) (fun x hx=>(hB.mem x hx).2)]
   exact hrel
  ·obtain ⟨n1,n2,n3,n4⟩:=X3r hN
   exact Xbk hg o hd.1 hop hcal hx hf hs hps hp (fun x hx=>(hA.mem x hx).2) (fun x hx=>(hB.mem x hx).2) n1 n2 n3 (fun i hi=>(n4 i hi).imp_right (fun hh=>hh.2)) (fun a' w' hrel=>hK _ _ _ hk hrel)
def FW (r:Option Nat):Fence:={ Fence.wide with round:=r }
theorem Rows.inW {P:Program} {r:Option Nat} {n:Nat} {row:String} {args:Array Value} {w:World} {R:Value→World→Prop} (h:Rows P row args w R):RowsIn (FW r) n P row args w R:=
 fun c cs _=>let ⟨v,w',h1,h2⟩:=h c cs; ⟨v,w',h1,stepsIn_wide.2 h2⟩
theorem Calls.inW {P:Program} {r:Option Nat} {n:Nat} {f:FuncId} {args:Array Value} {w:World} {R:Ending→World→Prop} (h:Calls P f args w R):CallsIn (FW r) n P f args w R:=
 callsIn_wide.2 h
theorem Vl {P:Program} {r:Option Nat} {o:Oper} (ho:∀c,o.op≠.defer c) {a:Act} {w:World} {K:Act→World→Prop} {Q:Exit→Act→World→Prop} (h:o.wp P a w K Q):o.wpIn (FW r) 0 P a w K Q:=by
 unfold Oper.wpIn
 refine ⟨fun _ _=>trivial,?_⟩
 rw [Oper.semAt_eq _ _ _ ho]
 unfold Oper.wp at h
 have hd:(FW r).depth.isSome=true→1≤0:=fun e=>by cases e
 generalize (execOp a.eval o).run P w=x at h ⊢
 cases x with
 |ok y w' => cases y<;>first
  |exact h
  |exact h.elim
  |exact ⟨hd,Calls.inW h⟩
  |exact ⟨hd,Rows.inW h⟩
 |halt y w' => cases y<;>exact h
theorem Xdg (hT:T=Kf P) {ops:Array Oper} (hall:∀(j:Nat) o,ops[j]? = some o→dstB M o=true) {base:Nat} (hbase:base+ops.size≤1000000) {ok:Nat→Nat→Bool} {r:Option Nat} {Q:PS→Prop} {Q' : Exit→Act→World→Prop} (hQ:∀σ a w,Q σ→Rel Φ0 W M σ a w→Q' .normal a w) :
  ∀(l:List (Nat×Oper)),(∀x∈l,ops[x.1]? = some x.2)→∀(σ:PS) (a:Act) (w:World),X5 P T ops base ok l Q σ→Rel Φ0 W M σ a w→wpOpsIn (FW r) 0 P ops Q' (l.map (·.1)) a w
 | [],_,σ,a,w,h,hr=>hQ σ a w h hr
 |(i,o) :: rest,hl,σ,a,w,h,hr=>by
  have hio:ops[i]? = some o:=hl (i,o) S_
  have ih:=Xdg hT hall hbase (ok:=ok) (r:=r) hQ rest (fun x hx=>hl x (by simp [hx]))
  simp only [List.map_cons,wpOpsIn,hio]
  have:=X1w hT hall hbase hio (K':=wpOpsIn (FW r) 0 P ops Q' (rest.map (·.1))) (Q':=Q') ih h hr
  split
  ·rename_i hw;rw [if_pos hw] at this;exact Vl (Vz (hall i o hio)) this
  ·rename_i hw;rw [if_neg hw] at this;exact ⟨fun _ _=>trivial,this⟩
end
section
open Go.RowKit
def Weak (r r' : PV):Prop:=(∀Φ μ v,Rep Φ μ r v→Rep Φ μ r' v)∧(r'.ownB=true→r' = r)
theorem Weak.refl (r:PV):Weak r r:=⟨fun _ _ _ h=>h,fun _=>rfl⟩
theorem Weak.eq {r r' : PV} (h:r=r'):Weak r r':=h ▸ Weak.refl r
theorem Weak.nil (k:Nat):Weak .nilsl (.sl 0 k [] none):=⟨fun Φ μ v h=>by rw [h.nilsl_inv];exact .sl0 k none none 0 D_,fun h=>by simp [PV.ownB] at h⟩
theorem Weak.bare (r:PV):Weak r r.bare:=⟨fun Φ μ v h=>h.bare,fun h=>by cases r<;>simp_all [PV.ownB,PV.bare]⟩
inductive X7:List PV→List PV→Prop
 |nil:X7 [] []
 |cons {p q:PV} {ps qs:List PV} (h:Weak p q) (hs:X7 ps qs):X7 (p :: ps) (q :: qs)
theorem X7.len {ps qs:List PV} (h:X7 ps qs):ps.length=qs.length:=by
 induction h with
 |nil=>rfl
 |cons _ _ ih=>simp [ih]
theorem X7.get {ps qs:List PV} (h:X7 ps qs):∀(j:Nat) q,qs[j]? = some q→∃p,ps[j]? = some p∧Weak p q:=by
 induction h with
 |nil=>intro j q h;simp at h
 |cons h1 _ ih=>
  intro j q h
  cases j with
  |zero=>simp at h;subst h;exact ⟨_,rfl,h1⟩
  |succ j=>simpa using ih j q (by simpa using h)
theorem X7.eq:∀{ps qs:List PV},ps=qs→X7 ps qs
 | [],_,rfl=>.nil
 |p :: ps,_,rfl=>.cons (Weak.refl p) (X7.eq rfl)
theorem Weak.agg {ps qs:List PV} (h:X7 ps qs):Weak (.agg ps) (.agg qs):=by
 refine ⟨fun Φ μ v hv=>?_,fun h=>by simp [PV.ownB] at h⟩
 cases hv with
 |agg cs us hr=>
  rw [h.len]
  refine .agg qs us fun j c hj=>?_
  obtain ⟨p,hp,hw⟩:=h.get j c hj
  exact hw.1 _ _ _ (hr j p hp)
theorem Weak.tup {ps qs:List PV} (h:X7 ps qs):Weak (.tup ps) (.tup qs):=by
 refine ⟨fun Φ μ v hv=>?_,fun h=>by simp [PV.ownB] at h⟩
 cases hv with
 |tup cs us hr=>
  rw [h.len]
  refine .tup qs us fun j c hj=>?_
  obtain ⟨p,hp,hw⟩:=h.get j c hj
  exact hw.1 _ _ _ (hr j p hp)
structure Z4 (Φ0:Ent) (W:World) (Φ1:Ent) (W1:World):Prop where
 imm:Φ1.imm=Φ0.imm
 mu:Φ1.mu=Φ0.mu
 round:Φ1.round=Φ0.round
 kept:Kept (Old Φ0 W) W W1
 old:∀b,Old Φ0 W b→Old Φ1 W1 b
 mine:∀g,Mine Φ1 W1 g→Mine Φ0 W g
 only:∀b,Old Φ1 W1 b→Old Φ0 W b∨b∈Φ1.marks
 ext:(∀b o u,Φ1.imm b o=some u→b < W1.heap.size)→∀b o u,Φ0.imm b o=some u→b < W.heap.size
 marks:∃ms,Φ1.marks=ms ++ Φ0.marks∧ms.Nodup∧∀m∈ms,W.heap.size≤m∧Old Φ1 W1 m∧W1.heap[m]? = some (.deferred (some []))
theorem Z4.refl (Φ0:Ent) (W:World):Z4 Φ0 W Φ0 W:=⟨rfl,rfl,rfl,Kept.refl _ _,fun _ h=>h,fun _ h=>h,fun _ h=>.inl h,fun h=>h,[],rfl,List.nodup_nil,fun m h=>by cases h⟩
theorem Z4.trans {Φ0 Φ1 Φ2:Ent} {W W1 W2:World} (h:Z4 Φ0 W Φ1 W1) (k:Z4 Φ1 W1 Φ2 W2):Z4 Φ0 W Φ2 W2:=by
 obtain ⟨ms,e1,n1,h1⟩:=h.marks
 obtain ⟨ns,e2,n2,h2⟩:=k.marks
 refine ⟨k.imm.trans h.imm,k.mu.trans h.mu,k.round.trans h.round,h.kept.trans (k.kept.mono h.old),fun b hb=>k.old b (h.old b hb),fun g hg=>h.mine g (k.mine g hg),fun b hb=>(k.only b hb).elim (fun hb=>(h.only b hb).imp id (fun hb=>by rw [e2];exact List.mem_append.2 (.inr hb))) .inr,fun hh=>h.ext (k.ext hh),ns ++ ms,by rw [e2,e1,List.append_assoc],?_,fun m hm=>?_⟩
 ·rw [List.nodup_append]
  refine ⟨n2,n1,fun x hx y hy e=>?_⟩
  subst e
  have:=(h2 x hx).1
  have:=(h1 x hy).2.1.1
  omega
 ·rcases List.mem_append.1 hm with hm|hm
  ·obtain ⟨p1,p2,p3⟩:=h2 m hm
   exact ⟨Nat.le_trans h.kept.size p1,p2,p3⟩
  ·obtain ⟨p1,p2,p3⟩:=h1 m hm
   exact ⟨p1,k.old m p2,(k.kept.block m p2).trans p3⟩
def Lift (Φ0:Ent) (W:World) (M:Nat) (Q:Exit→PS→Prop):Exit→Act→World→Prop:=fun e a w=>∃σ Φ1 W1,Q e σ∧Z4 Φ0 W Φ1 W1∧Rel Φ1 W1 M σ a w
theorem Lift.later {Φ0 Φ1:Ent} {W W1:World} {M:Nat} {Q:Exit→PS→Prop} (hl:Z4 Φ0 W Φ1 W1) {e:Exit} {a:Act} {w:World} (h:Lift Φ1 W1 M Q e a w):Lift Φ0 W M Q e a w:=by
 obtain ⟨σ,Φ2,W2,h1,h2,h3⟩:=h
 exact ⟨σ,Φ2,W2,h1,hl.trans h2,h3⟩
def PW (P:Program) (M:Nat) (c:Code) (Q:Exit→PS→Prop) (σ:PS):Prop:=∀Φ0 W a w,Rel Φ0 W M σ a w→c.wpIn (FW Φ0.round) 0 P (Lift Φ0 W M Q) a w
theorem PW.from {P:Program} {M:Nat} {c:Code} {Q:Exit→PS→Prop} {σ:PS} (h:PW P M c Q σ) {Φ0 Φ1:Ent} {W W1:World} (hl:Z4 Φ0 W Φ1 W1) {a:Act} {w:World} (hr:Rel Φ1 W1 M σ a w):c.wpIn (FW Φ0.round) 0 P (Lift Φ0 W M Q) a w:=by
 have:=h Φ1 W1 a w hr
 rw [hl.round] at this
 exact wpIn_mono this fun e a w hh=>hh.later hl
def Sub (M:Nat) (σ σ' : PS):Prop:=∀Φ0 W a w,Rel Φ0 W M σ a w→Rel Φ0 W M σ' a w
theorem Sub.refl (M:Nat) (σ:PS):Sub M σ σ:=fun _ _ _ _ h=>h
theorem Sub.trans {M:Nat} {a b c:PS} (h:Sub M a b) (k:Sub M b c):Sub M a c:=fun _ _ _ _ x=>k _ _ _ _ (h _ _ _ _ x)
end
section
open Go.RowKit
variable {P:Program} {M:Nat} {Q:Exit→PS→Prop} {σ:PS} {T:Tab}
theorem PW.sub {c:Code} {σ' : PS} (h:PW P M c Q σ') (hs:Sub M σ σ'):PW P M c Q σ:=fun Φ0 W a w hr=>h Φ0 W a w (hs Φ0 W a w hr)
theorem PW.conseq {c:Code} {Q' : Exit→PS→Prop} (h:PW P M c Q' σ) (hq:∀e σ,Q' e σ→Q e σ):PW P M c Q σ:=
 fun Φ0 W a w hr=>wpIn_mono (h Φ0 W a w hr) (fun e a w ⟨σ',Φ1,W1,h1,h2⟩=>⟨σ',Φ1,W1,hq e σ' h1,h2⟩)
def Xp9 (P:Program) (M:Nat) (y:Code) (Q:Exit→PS→Prop):Exit→PS→Prop
 | .normal,σ=>PW P M y Q σ
 |e,σ=>Q e σ
theorem PW.seq {x y:Code} (h:PW P M x (Xp9 P M y Q) σ):PW P M (.seq x y) Q σ:=by
 intro Φ0 W a w hr
 refine wpIn_seq (wpIn_mono (h Φ0 W a w hr) ?_)
 rintro e a' w' ⟨σ',Φ1,W1,h1,hl,h2⟩
 cases e with
 |normal=>exact PW.from h1 hl h2
 |_=>exact ⟨σ',Φ1,W1,h1,hl,h2⟩
theorem PW.skip (h:Q .normal σ):PW P M .skip Q σ:=fun Φ0 W a w hr=>wpIn_skip ⟨σ,Φ0,W,h,Z4.refl _ _,hr⟩
theorem PW.exit {i:Nat} (h:Q (.exit i) σ):PW P M (.exit i) Q σ:=fun Φ0 W a w hr=>wpIn_exit ⟨σ,Φ0,W,h,Z4.refl _ _,hr⟩
theorem PW.ret (h:Q .ret σ):PW P M .ret Q σ:=fun Φ0 W a w hr=>wpIn_ret ⟨σ,Φ0,W,h,Z4.refl _ _,hr⟩
theorem PW.cond {c:Operand} {x y:Code} {b:Bool} (hc:pev σ c = .val (.bool b)) (h1:b=true→PW P M x Q σ) (h2:b=false→PW P M y Q σ):PW P M (.cond c x y) Q σ:=by
 intro Φ0 W a w hr
 obtain ⟨Φ,μ,ω,hg⟩:=hr
 have hv:=hg.ev c
 rw [hc] at hv
 obtain ⟨hv,-⟩:=hv.val_inv
 cases b
 ·exact wpIn_cond hv (h2 rfl Φ0 W a w ⟨Φ,μ,ω,hg⟩)
 ·exact wpIn_cond hv (h1 rfl Φ0 W a w ⟨Φ,μ,ω,hg⟩)
def X5q (id:Nat) (Q:Exit→PS→Prop):Exit→PS→Prop
 | .exit i,σ=>if i=id then Q .normal σ else Q (.exit i) σ
 |e,σ=>Q e σ
theorem PW.block {id:Nat} {c:Code} (h:PW P M c (X5q id Q) σ):PW P M (.block id c) Q σ:=by
 intro Φ0 W a w hr
 refine wpIn_block (wpIn_mono (h Φ0 W a w hr) ?_)
 rintro e a' w' ⟨σ',Φ1,W1,h1,h2⟩
 cases e with
 |exit i=>
  simp only [X5q] at h1
  simp only [Exit.inBlock]
  split at h1
  ·rename_i e;simp only [e,if_true];exact ⟨σ',Φ1,W1,h1,h2⟩
  ·rename_i e;simp only [e,if_false];exact ⟨σ',Φ1,W1,h1,h2⟩
 |_=>exact ⟨σ',Φ1,W1,h1,h2⟩
def Xy0 {α:Type} (M:Nat) (st:α→PS) (I:α→Prop) (m:α→Nat) (x:α) (Q:Exit→PS→Prop):Exit→PS→Prop
 | .normal,σ=>∃y,I y∧m y < m x∧Sub M σ (st y)
 |e,σ=>Q e σ
theorem PW.loop {α:Type} {c:Code} (st:α→PS) (I:α→Prop) (m:α→Nat) (x0:α) (hi:I x0) (h0:Sub M σ (st x0)) (round:∀x,I x→PW P M c (Xy0 M st I m x Q) (st x)):PW P M (.loop c) Q σ:=by
 intro Φ0 W a w hr b k cs hro hb hroom
 have key:∀n x a w Φ1 W1,m x=n→I x→Z4 Φ0 W Φ1 W1→Rel Φ1 W1 M (st x) a w→∃e a' w',Lift Φ0 W M Q e a' w'∧ArrivesIn (Machine.fenced P (FW Φ0.round)) P (lone (b.atR a (.code c :: .inLoop c :: k)) cs w) b k cs e a' w':=by
  intro n
  induction n using Nat.strongRecOn with
  |_ n ih=>
   intro x a w Φ1 W1 hn hi' hl hI
   obtain ⟨e,a₁,w₁,⟨σ₁,Φ2,W2,hq,hl2,hrel⟩,harr⟩:=(round x hi').from hl hI b (.inLoop c :: k) cs hro hb hroom
   cases e with
   |normal=>
    obtain ⟨y,hy,hlt,hsub⟩:=hq
    obtain ⟨e₂,a₂,w₂,hq₂,harr₂⟩:=ih (m y) (hn ▸ hlt) y a₁ w₁ Φ2 W2 rfl hy hl2 (hsub _ _ _ _ hrel)
    exact ⟨e₂,a₂,w₂,hq₂, .of_steps (StepsIn.trans harr (.one (fenced_calm hb hroom rfl) stepR_inLoop)) harr₂⟩
   |exit id=>exact ⟨_,a₁,w₁,⟨σ₁,Φ2,W2,hq,hl2,hrel⟩, .pass (x:=.inLoop c) rfl (fun _ _=>.inl S_) harr⟩
   |goto l=>exact ⟨_,a₁,w₁,⟨σ₁,Φ2,W2,hq,hl2,hrel⟩, .pass (x:=.inLoop c) rfl (fun _ _=>.inl S_) harr⟩
   |ret=>exact ⟨_,a₁,w₁,⟨σ₁,Φ2,W2,hq,hl2,hrel⟩, .pass (x:=.inLoop c) rfl (fun _ _=>.inl S_) harr⟩
   |panic ch=>exact ⟨_,a₁,w₁,⟨σ₁,Φ2,W2,hq,hl2,hrel⟩, .pass (x:=.inLoop c) rfl (fun _ _=>.inl S_) harr⟩
   |outgrown=>exact ⟨_,a₁,w₁,⟨σ₁,Φ2,W2,hq,hl2,hrel⟩, .pass (x:=.inLoop c) rfl (fun _ _=>.inl S_) harr⟩
 obtain ⟨e,a',w',hq,harr⟩:=key _ x0 a w Φ0 W rfl hi (Z4.refl _ _) (h0 _ _ _ _ hr)
 exact ⟨e,a',w',hq, .of_steps (.one (fenced_calm hb hroom rfl) stepR_loop) harr⟩
def Xa:Nat→List Oper→List (Nat×Oper)
 |_,[] => []
 |i,o :: r=>(i,o) :: Xa (i+1) r
theorem X15:∀(i:Nat) (l:List Oper),(Xa i l).map (·.1)=List.range' i l.length
 |_,[]=>rfl
 |i,o :: r=>by simp [Xa,X15 (i+1) r,List.range'_succ]
theorem Yb:∀(i:Nat) (l:List Oper) (x:Nat×Oper),x∈Xa i l→i≤x.1∧l[x.1 - i]? = some x.2
 |_,[],x,h=>by cases h
 |i,o :: r,x,h=>by
  simp only [Xa,List.mem_cons] at h
  rcases h with rfl|h
  ·simp
  ·obtain ⟨h1,h2⟩:=Yb (i+1) r x h
   refine ⟨O_,?_⟩
   rw [show x.1 - i=(x.1 - (i+1))+1 by omega]
   simpa using h2
theorem PW.region (hT:T=Kf P) {id:Nat} {ops:List Oper} (hall2:(ops.all (dstB M) && Nat.ble (1000 * id+ops.length) 1000000)=true) (h:X5 P T ops.toArray (1000 * id) (fun _ _=>true) (Xa 0 ops) (Q .normal) σ):PW P M (.region id ops.toArray false) Q σ:=by
 intro Φ0 W a w hr
 have hall2':=hall2
 simp only [Bool.and_eq_true] at hall2'
 obtain ⟨hall,hb0⟩:=hall2'
 have hbase:=Nat.le_of_ble_eq_true hb0
 refine wpIn_region ?_
 have:=Xdg (Φ0:=Φ0) (W:=W) (M:=M) (r:=Φ0.round) hT (ops:=ops.toArray) (by
  intro j o hj
  exact List.all_eq_true.1 hall o (Xc (by simpa using hj))) (by simpa using hbase) (Q:=Q .normal) (Q':=Lift Φ0 W M Q) (fun σ a w hq hrel=>⟨_,Φ0,W,hq,Z4.refl _ _,hrel⟩) (Xa 0 ops) (by
  intro x hx
  obtain ⟨-,h2⟩:=Yb 0 ops x hx
  simpa using h2) σ a w h hr
 rw [X15] at this
 rw [List.range_eq_range',List.size_toArray]
 exact this
def Xdw (T:Tab) (σ:PS):ResultVar→Option PV
 | .tmp t=>some (σ.t t)
 | .cell x ty=>match T.at ty with
  |some ti=>Zj ti σ.b (σ.t x).bare
  |none=>none
def V7 (T:Tab) (σ:PS):List ResultVar→Option PV
 | [x]=>Xdw T σ x
 |xs=>(xs.mapM (Xdw T σ)).map fun l=>.tup (l.map PV.bare)
def RetP (T:Tab) (rs:List ResultVar) (post:PV→Prop):Exit→PS→Prop
 | .ret,σ=>∃r,V7 T σ rs=some r∧Low r∧post r
 | .normal,σ=>∃r,V7 T σ rs=some r∧Low r∧post r
 |_,_=>False
def Xs2 (args:List PV):PS:={ t:=fun t=>(args[t]?).getD .undef,b:=fun _=>none,m:=fun _=>none }
theorem Xcj (hT:T=Kf P) {Φ0:Ent} {W:World} {Φ:Imm} {μ:Nat→Option Nat} {ω:Nat→Option Who} {a:Act} {w:World} (h:RelG Φ0 W M Φ μ ω σ a w) {x:ResultVar} {r:PV} (hp:Xdw T σ x=some r) :
  ∃v,(match x with | .tmp t=>pure (a.tmps.getD t undef) | .cell y t=>do loadVar t (←asAddr (a.tmps.getD y undef)):Sem Value).run P w = .ok v w∧Rep Φ μ r v∧(r.ownB=true→∃t,r=σ.t t∧v=a.tmps.getD t undef):=by
 cases x with
 |tmp t=>
  simp only [Xdw,Option.some.injEq] at hp
  subst hp
  exact ⟨a.tmps.getD t undef,S_,h.tmps t,fun _=>⟨t,rfl,rfl⟩⟩
 |cell y ty=>
  simp only [Xdw] at hp
  split at hp
  ·rename_i ti ht
   obtain ⟨u,r1,r2,r3⟩:=h.load (P:=P) (Y9 hT ht) (h.tmps y).bare hp
   refine ⟨u,?_,r2,fun e=>by rw [r3] at e;cases e⟩
   have hb:=(h.tmps y).bare
   have:∃ad,a.tmps.getD y undef = .pointer (some ad):=by
    unfold Zj at hp
    split at hp
    ·rename_i e;rw [e] at hb;obtain ⟨g,-,e2⟩:=hb.ptr_inv;exact ⟨_,e2⟩
    ·rename_i e;rw [e] at hb;obtain ⟨_,_,_,e2,_⟩:=hb.ep_inv;exact ⟨_,e2⟩
    ·cases hp
   obtain ⟨ad,e⟩:=this
   simp only
   rw [e] at r1 ⊢
   simpa [asAddr,Instr.loadAt,Instr.sureAddr] using r1
  ·cases hp
theorem X2a (hT:T=Kf P) {Φ0:Ent} {W:World} {Φ:Imm} {μ:Nat→Option Nat} {ω:Nat→Option Who} {a:Act} {w:World} (hg:RelG Φ0 W M Φ μ ω σ a w) {fn:Func} {r:PV} (hpr:V7 T σ fn.results.toList=some r) :
  ∃v,(results fn a.tmps).run P w = .ok v w∧Rep Φ μ r v∧(r.ownB=true→∃t,r=σ.t t∧v=a.tmps.getD t undef):=by
 unfold V7 at hpr
 split at hpr
 ·rename_i x hx
  obtain ⟨v,r1,r2,r3⟩:=Xcj hT hg hpr
  refine ⟨v,?_,r2,r3⟩
  unfold results
  rw [Sem.run_bind,Array.mapM_eq_mapM_toList,Sem.run_map,hx,X1v (P:=P) (w:=w) _ [x] [v] rfl (by
   intro j x' y h1 h2
   cases j with
   |zero=>simp at h1 h2;subst h1 h2;exact r1
   |succ j=>simp at h1)]
  simp
 ·rename_i hne
  obtain ⟨l,hl',rfl⟩:=Option.map_eq_some_iff.1 hpr
  have hget:=Xg0 _ _ _ hl'
  have hlen:=Xgh _ _ _ hl'
  have hex:∃us:List Value,us.length=l.length∧∀(j:Nat) p u,l[j]? = some p→us[j]? = some u→Rep Φ μ p u∧∀x,fn.results.toList[j]? = some x→(match x with | .tmp t=>pure (a.tmps.getD t undef) | .cell y t=>do loadVar t (←asAddr (a.tmps.getD y undef)):Sem Value).run P w = .ok u w:=by
   have:∀j:Nat,∃u,∀p,l[j]? = some p→Rep Φ μ p u∧∀x,fn.results.toList[j]? = some x→(match x with | .tmp t=>pure (a.tmps.getD t undef) | .cell y t=>do loadVar t (←asAddr (a.tmps.getD y undef)):Sem Value).run P w = .ok u w:=by
    intro j
    cases hj:l[j]? with
    |none=>exact ⟨undef,fun p e=>by cases e⟩
    |some p=>
     obtain ⟨x,hx,hpx⟩:=hget j p hj
     obtain ⟨v,r1,r2,r3⟩:=Xcj hT hg hpx
     refine ⟨v,fun p' e=>?_⟩
     cases e
     refine ⟨r2,fun x' hx' => ?_⟩
     rw [hx] at hx'; cases hx'
     exact r1
   obtain ⟨us,hus⟩:=Classical.axiomOfChoice this
   refine ⟨(List.range l.length).map us,S_,fun j p u h1 h2=>?_⟩
   have hj:j < l.length:=(List.getElem?_eq_some_iff.1 h1).1
   simp [hj] at h2
   subst h2
   exact hus j p h1
  obtain ⟨us,hul,hus⟩:=hex
  refine ⟨.tuple us.toArray,?_,?_,fun e=>by simp [PV.ownB] at e⟩
  ·unfold results
   rw [Sem.run_bind,Array.mapM_eq_mapM_toList,Sem.run_map,X1v (P:=P) (w:=w) _ fn.results.toList us (by rw [hul,hlen]) (by
    intro j x y h1 h2
    have hj:j < l.length:=by rw [←hul];exact (List.getElem?_eq_some_iff.1 h2).1
    exact (hus j l[j] y (by simp [hj]) h2).2 x h1)]
   have hne1:us.length≠1:=by
    rw [hul,hlen]
    intro e1
    obtain ⟨x,hx⟩:=List.length_eq_one_iff.1 e1
    exact hne x hx
   simp [hne1]
  ·exact (Xci ⟨hul,fun j p u h1 h2=>(hus j p u h1 h2).1⟩).tup
def shut (w:World) (ms:List Nat):World:=ms.foldl (fun w m=>w.putObj m (.deferred none)) w
theorem X7s:∀(ms:List Nat) (w:World),(shut w ms).heap.size=w.heap.size
 | [],_=>rfl
 |m :: ms,w=>by show (shut (w.putObj m _) ms).heap.size=_;rw [X7s ms];simp
theorem X9j:∀(ms:List Nat) (w:World) (k:Nat),k∉ms→(shut w ms).heap[k]? = w.heap[k]?
 | [],_,_,_=>rfl
 |m :: ms,w,k,h=>by
  show (shut (w.putObj m _) ms).heap[k]? = _
  rw [X9j ms _ k (fun hh=>h (List.mem_cons_of_mem _ hh))]
  exact World.putObj_heap_other (fun e=>h (by rw [e];exact List.mem_cons_self))
theorem Xl5:∀(ms:List Nat) (w:World),(shut w ms).os=w.os∧(shut w ms).tape=w.tape∧(shut w ms).output=w.output
 | [],_=>⟨rfl,rfl,rfl⟩
 |m :: ms,w=>Xl5 ms (w.putObj m (.deferred none))
theorem X10 {fn:Func} {tmps:Array Value} {R:Ending→World→Prop} : ∀(ms:List Nat) (w:World),ms.Nodup→(∀m∈ms,w.heap[m]? = some (.deferred (some []))) →
  (∃v,(results fn tmps).run P (shut w ms) = .ok v (shut w ms)∧R (.returned v) (shut w ms))→LeavesInM (FW none) 0 P fn tmps R (ms.map X7u) .returning w
 | [],w,_,_,⟨v,h1,h2⟩=>⟨v,h1,h2⟩
 |m :: ms,w,hn,hm,h=>by
  refine ⟨S_, .inl ⟨m,_,rfl,run_takeDeferred (hm m List.mem_cons_self),X10 ms _ (List.nodup_cons.1 hn).2 (fun k hk=>?_) h⟩⟩
  rw [World.putObj_heap_other (by rintro rfl;exact (List.nodup_cons.1 hn).1 hk)]
  exact hm k (List.mem_cons_of_mem _ hk)
theorem RelG.shut {Φ0 Φ1:Ent} {W W1:World} {M:Nat} {Φ:Imm} {μ:Nat→Option Nat} {ω:Nat→Option Who} {a:Act} {w:World} (h0:Φ0.marks = []) (hr:Φ0.round=none) (hl:Z4 Φ0 W Φ1 W1) (h:RelG Φ1 W1 M Φ μ ω σ a w) :
  ∃ms,a.defers=ms.map X7u∧ms.Nodup∧(∀m∈ms,w.heap[m]? = some (.deferred (some [])))∧RelG Φ0 W M Φ μ ω σ { a with defers := [] } (Proofs.YtmciloafahkolaaGreatDoor.shut w ms):=by
 obtain ⟨ms,e1,n1,h1⟩:=hl.marks
 rw [h0,List.append_nil] at e1
 have hd:∀m∈ms,w.heap[m]? = some (.deferred (some [])):=fun m hm=>(h.below.block m (h1 m hm).2.1).trans (h1 m hm).2.2
 refine ⟨ms,by rw [h.defers.1,e1],n1,hd,?_⟩
 obtain ⟨k1,k2,k3⟩:=Xl5 ms w
 have hcell:∀b o u,w.cell? ⟨b,o,none⟩=some u→b∉ms:=by
  intro b o u e hb
  have:=hd b hb
  simp only [World.cell?,this] at e
  cases e
 have hno:∀g p,ω g=some p→g∉ms:=fun g p e hg=>(h.mine g p e).ne (h1 g hg).2.1 rfl
 have hb0:Kept (Old Φ0 W) W w:=hl.kept.trans (h.below.mono hl.old)
 have hbk:∀k,k∉ms→(Proofs.YtmciloafahkolaaGreatDoor.shut w ms).heap[k]? = w.heap[k]?:=fun k hk=>X9j ms w k hk
 have hkeep:∀q,∀g,ω g=some q→(Proofs.YtmciloafahkolaaGreatDoor.shut w ms).heap[g]? = w.heap[g]?∧(∀j,Φ g j=Φ g j)∧ω g=some q:=fun q g e=>⟨hbk g (hno g q e),fun _=>rfl,e⟩
 have hm:∀g,Mine Φ1 W1 g→Mine Φ0 W g:=hl.mine
 refine ⟨⟨k1.trans hb0.os,k2.trans hb0.tape,k3.trans hb0.output,by rw [X7s];exact hb0.size,fun k hk=>?_⟩,⟨by rw [h0];rfl,fun l e=>by rw [hr] at e;cases e⟩,h.size,fun b o u e=>?_,fun b o hb=>(h.old b o (hl.old b hb)).trans (by rw [hl.imm]),h.tmps,fun t n k cs E e=>((h.own t n k cs E e).inB (fun g e=>hm g (h.mine g _ e))).step (hkeep _),fun id bs e=>?_,h.gone,fun g p e=>by rw [X7s];exact h.lt g p e,fun i g e=>h.gmu i g (by rw [hl.mu];exact e),fun i g e=>h.kmu i g (by rw [hl.mu];exact e),fun b o u e=>?_,fun i X e=>?_,fun g p e=>hm g (h.mine g p e)⟩
 ·have:k∉ms:=fun hk' => by have:=(h1 k hk').1;have:=hk.1;omega
  rw [hbk k this];exact hb0.block k hk
 ·have e':=h.imm b o u e
  have:b∉ms:=hcell b o u e'
  simp only [World.cell?] at e' ⊢
  rw [hbk b this];exact e'
 ·exact ((h.box id bs e).inB (fun g q _ e=>hm g (h.mine g q e))).step (fun _ _ _ e=>e) (fun _ _ e=>e) (fun q _ g e=>hkeep q g e)
 ·exact ⟨(h.ext b o u (by rw [hl.imm];exact e)).1,hl.ext (fun b o u e=>(h.ext b o u e).2) b o u e⟩
 ·exact ((h.map i X e).inB (fun g q _ e=>hm g (h.mine g q e))).step (fun _ _ _ e=>e) (fun _ _ e=>e) (fun q _ g e=>hkeep q g e)
theorem Xd (hT:T=Kf P) {f:FuncId} {fn:Func} {c:Code} {args:List PV} {post:PV→Prop} (hf:P.funcs[f]? = some fn) (hb:fn.body=some c) (hcb:X28 P f=true) (hlow:∀p∈args,Low p) (hno:∀p∈args,p.ownB=false) (hn:args.length≤fn.ntmps)
  (h:PW P fn.ntmps c (RetP T fn.results.toList post) (Xs2 args)):Xs P f args post:=by
 refine ⟨hcb,fun Φ μ w vs himm hgl hrep=>(callsIn_wide (n:=0)).1 (callsIn_of_wp_marks hf hb trivial ?_)⟩
 have hrel:Rel ⟨Φ,fun _=>False,fun _=>none,hgl,fun _ h=>h.elim,[],none⟩ w fn.ntmps (Xs2 args) { tmps:=vs.toArray ++ Array.replicate (fn.ntmps - vs.toArray.size) undef,defers := [] } w:=by
  refine ⟨Φ,mu0,fun _=>none,Kept.refl _ _,⟨rfl,fun _ e=>by cases e⟩,by simp [hrep.1];omega,himm,fun _ _ _=>rfl,fun t=>?_,fun t n k cs E e=>?_,fun id bs e=>(by cases e),fun _ _ _=>rfl,fun g p e=>(by cases e),fun id g e=>(by cases e),fun id g e=>(by cases e),fun b o u e=>⟨e,World.block_lt_of_cell? _ _ (himm b o u e)⟩,fun id X e=>(by cases e),fun g p e=>(by cases e)⟩
  ·simp only [Xs2]
   cases ht:args[t]? with
   |none=>exact .undef _
   |some p=>
    obtain ⟨u,hu,hru⟩:=hrep.get ht
    have hlt:t < vs.length:=(List.getElem?_eq_some_iff.1 hu).1
    have:(vs.toArray ++ Array.replicate (fn.ntmps - vs.toArray.size) undef).getD t undef=u:=by
     rw [Array.getD_eq_getD_getElem?,Array.getElem?_append_left (by simpa using hlt)]
     simp [hu]
    rw [this]
    exact hru.low (hlow p (Xc ht))
  ·simp only [Xs2] at e
   cases ht:args[t]? with
   |none=>rw [ht] at e;simp at e
   |some p=>
    rw [ht] at e
    simp at e
    have:=hno p (Xc ht)
    rw [e] at this;simp [PV.ownB] at this
 refine wpIn_mono (h _ w _ w hrel) ?_
 rintro e a' w0 ⟨σ',Φ1,W1,hq,hlat,Φ',μ',ω',hg0⟩
 obtain ⟨ms,hd1,hd2,hd3,hg⟩:=RelG.shut rfl rfl hlat hg0
 generalize hw' : shut w0 ms=w' at hg
 have fin:∀r,V7 T σ' fn.results.toList=some r→Low r→post r→LeavesInM (FW none) 0 P fn a'.tmps (X4j Φ w post) a'.defers .returning w0:=by
  intro r hpr hl hpost
  rw [hd1]
  refine X10 ms w0 hd2 hd3 ?_
  rw [hw']
  obtain ⟨v,r1,r2,r3⟩:=X2a hT hg hpr
  refine ⟨v,r1,r,v,Φ',rfl,hpost,r2.low hl,hg.imm,fun b o hb=>hg.old b o ⟨hb,fun h=>h⟩,hg.below.to fun k hk=>⟨hk,fun h=>h⟩,fun n k cs E e=>?_⟩
  obtain ⟨t,e1,e2⟩:=r3 (by rw [e];rfl)
  subst e2
  rcases hg.own t n k cs E (by rw [←e1,e]) with ho|⟨g,cap,cur,k1,k2,k3,k4,k5,k6,k7,k8⟩|ho
  ·exact .inl ho
  ·exact .inr (.inl ⟨g,cap,cur,k1,k2.resolve_right (fun h=>h),k3,k4,k5,k6,rfl,k8⟩)
  ·exact .inr (.inr ho)
 cases e with
 |ret=>obtain ⟨r,k1,k2,k3⟩:=hq;exact fin r k1 k2 k3
 |normal=>obtain ⟨r,k1,k2,k3⟩:=hq;exact fin r k1 k2 k3
 |_=>exact hq.elim
end
section
open Go.RowKit
def Za (args:List PV) (given:List (Nat×List PV)) (gm:List (Nat×PMap)):PS:={ t:=fun t=>(args[t]?).getD .undef,b:=given.foldl (fun b x=>upd b x.1 (some x.2)) (fun _=>none),m:=gm.foldl (fun b x=>upd b x.1 (some x.2)) (fun _=>none) }
def AllW (σ:PS):List (Nat×List PV)→Prop
 | []=>True
 |x :: l=>(∃bs,σ.b x.1=some bs∧X7 bs x.2)∧AllW σ l
theorem AllW.mem {σ:PS} : ∀{l:List (Nat×List PV)},AllW σ l→∀x∈l,∃bs,σ.b x.1=some bs∧X7 bs x.2
 |y :: l,h,x,hx=>by
  rcases List.mem_cons.1 hx with rfl|hx
  ·exact h.1
  ·exact AllW.mem h.2 x hx
def RetH (T:Tab) (rs:List ResultVar) (r:PV) (res:List (Nat×List PV)) (rm:List (Nat×PMap)):Exit→PS→Prop
 | .ret,σ=>∃r',V7 T σ rs=some r'∧Weak r' r∧AllW σ res∧AllM σ (fun _=>true) rm
 | .normal,σ=>∃r',V7 T σ rs=some r'∧Weak r' r∧AllW σ res∧AllM σ (fun _=>true) rm
 |_,_=>False
structure HOk (args:List PV) (given:List (Nat×List PV)) (gm:List (Nat×PMap)) (r:PV) (res:List (Nat×List PV)) (rm:List (Nat×PMap)):Prop where
 ha:∀p∈args,LowI (fun i=>i∈X0 given gm) p
 hg:∀x∈given,∀c∈x.2,LowI (fun i=>i∈X0 given gm) c
 hm:∀x∈gm,LowM (fun i=>i∈X0 given gm) x.2
 hr:LowI (fun i=>i∈X0 res rm) r
 hres:∀x∈res,∀c∈x.2,LowI (fun i=>i∈X0 res rm) c
 hrm:∀x∈rm,LowM (fun i=>i∈X0 res rm) x.2
 s1:∀i∈given.map (·.1),i∈res.map (·.1)
 s2:∀i∈gm.map (·.1),i∈rm.map (·.1)
theorem V2.weak {B:Nat→Prop} {Φ:Imm} {μ:Nat→Option Nat} {ω:Nat→Option Who} {w:World} {id:Nat} {bs cs:List PV} (h:V2 B Φ μ ω w id bs) (hw:X7 bs cs):V2 B Φ μ ω w id cs:=by
 obtain ⟨g,cur,T,h1,h2,h3,h4,h5,h6,h7⟩:=h
 refine ⟨g,cur,T,h1,h2,h3,h4,h5,(by have:=hw.len;omega),fun j c hc=>?_⟩
 obtain ⟨p,hp,hpw⟩:=hw.get j c hc
 obtain ⟨u,r1,r2,r3,r4⟩:=h7 j p hp
 exact ⟨u,r1,r2,hpw.1 _ _ _ r3,fun n k cs E e=>r4 n k cs E (by rw [←hpw.2 (by rw [e];rfl),e])⟩
def noI64:PV→Bool
 | .val (.int .i64 _)=>false
 | .undef=>false
 | .agg _=>false
 | .tup _=>false
 |_=>true
theorem Rep.noI64 {Φ:Imm} {μ:Nat→Option Nat} {p:PV} {v:Value} (h:Rep Φ μ p v) (hp:noI64 p=true):Xgj v=false:=by
 cases h with
 |undef=>cases hp
 |val v h=>
  cases v with
  |int k z=>cases k<;>first|rfl|cases hp
  |_=>rfl
 |agg=>cases hp
 |tup=>cases hp
 |fn f cs us hr=>
  obtain ⟨t1,p1,q1,e1⟩:=Xaq f ((List.range cs.length).map us).toArray
  rw [e1];rfl
 |_=>rfl
def X0s (c:PV):Prop:=∀n k cs E,c = .sl n k cs (some E)→∀p∈cs,noI64 p=true
def GivB (given:List (Nat×List PV)):Prop:=∀x∈given,∀c∈x.2,X0s c
def GivM (gm:List (Nat×PMap)):Prop:=∀x∈gm,∀es clock,x.2 = .map es clock→∀e∈es,X0s e.2.2
theorem X9n {c:PV} (h:c.ownB=false):X0s c:=by
 intro n k cs E e;rw [e] at h;cases h
theorem Y2l {n k:Nat} {cs:List PV} {own:Option TypeId} (h:∀p∈cs,noI64 p=true):X0s (.sl n k cs own):=by
 intro n' k' cs' E e;cases e;exact h
theorem Xn6:GivB []:=fun x hx=>by simp at hx
theorem Xjd {id:Nat} {bs:List PV} {l:List (Nat×List PV)} (h:∀c∈bs,X0s c) (hl:GivB l):GivB ((id,bs) :: l):=by
 intro x hx
 rcases List.mem_cons.1 hx with rfl|hx
 ·exact h
 ·exact hl x hx
theorem Xn2:GivM []:=fun x hx=>by simp at hx
theorem Xi0 {id:Nat} {es:List (Nat×PV×PV)} {clock:Nat} {l:List (Nat×PMap)} (h:∀e∈es,X0s e.2.2) (hl:GivM l):GivM ((id, .map es clock) :: l):=by
 intro x hx
 rcases List.mem_cons.1 hx with rfl|hx
 ·intro es' c' e;cases e;exact h
 ·exact hl x hx
theorem Xrt:∀c∈([]:List PV),X0s c:=fun x hx=>by simp at hx
theorem Xo1 {c:PV} {l:List PV} (h:X0s c) (hl:∀c∈l,X0s c):∀x∈c :: l,X0s x:=by
 intro x hx
 rcases List.mem_cons.1 hx with rfl|hx
 ·exact h
 ·exact hl x hx
theorem Y4n {Φ:Imm} {μ:Nat→Option Nat} {n k g cap:Nat} {cs:List PV} {own:Option TypeId} (hr:Rep Φ μ (.sl n k cs own) (.slice (some ⟨g,0,none⟩) n cap)) (hf:∀j,n * k≤j→Φ g j=none) (hc:∀p∈cs,noI64 p=true):∀o u,Φ g o=some u→Xgj u=false:=by
 intro o u e
 obtain ⟨a,b,off,cap',us,hv,-,-,q3,q4,q5,q6⟩:=hr.sl_inv
 have ho:o < n * k:=by
  rcases Nat.lt_or_ge o (n * k) with h|h
  ·exact h
  ·rw [hf o h] at e;cases e
 have hn:0 < n:=by
  rcases Nat.eq_zero_or_pos n with h|h
  ·subst h;simp at ho
  ·exact h
 cases hv
 have h4:=q4 hn
 cases h4
 have h5:=q5 o O_
 rw [Nat.zero_add,e] at h5
 cases h5
 have hl:o < cs.length:=O_
 exact (q6 o cs[o] (by simp [hl])).noI64 (hc _ (List.getElem_mem hl))
theorem Ki.lowJ {B B' : Nat→Prop} {Φ:Imm} {μ:Nat→Option Nat} {ω ω' : Nat→Option Who} {w:World} {p:Who} {n k:Nat} {cs:List PV} {E:TypeId} {v:Value} (h:Ki B Φ ω w p n k E v) (hr:Rep Φ μ (.sl n k cs (some E)) v) (ho:X0s (.sl n k cs (some E))) (hω:∀g,ω g=some p→(∀o u,Φ g o=some u→Xgj u=false)→ω' g=some p∧B' g):Ki B' Φ ω' w p n k E v:=by
 rcases h with h|⟨g,cap,cur,rfl,h2,h3,h4,h5,h6,h7,h8⟩|h
 ·exact .inl h
 ·obtain ⟨k1,k2⟩:=hω g h7 (Y4n hr h8.2 (ho n k cs E rfl))
  exact .inr (.inl ⟨g,cap,cur,rfl,k2,h3,h4,h5,h6,k1,h8⟩)
 ·exact .inr (.inr h)
theorem V2.lowJ {S:Nat→Prop} {B B' : Nat→Prop} {Φ:Imm} {μ μ' : Nat→Option Nat} {ω ω' : Nat→Option Who} {w:World} {id:Nat} {bs:List PV} (h:V2 B Φ μ ω w id bs) (hs:S id) (hl:∀c∈bs,LowI S c) (ho:∀c∈bs,X0s c) (hμ:∀i,S i→∀g,μ i=some g→μ' i=some g) (hω:∀q,OfId id q→∀g,ω g=some q→(∀o u,Φ g o=some u→Xgj u=false)→ω' g=some q∧B' g):V2 B' Φ μ' ω' w id bs:=by
 obtain ⟨g,cur,T,h1,h2,h3,h4,h5,h6,h7⟩:=h
 obtain ⟨k1,k2⟩:=hω _ (.inl rfl) g h4 (fun o u e=>by rw [h5] at e;cases e)
 refine ⟨g,cur,T,hμ _ hs _ h1,h2,k2,k1,h5,h6,fun j c hc=>?_⟩
 obtain ⟨u,r1,r2,r3,r4⟩:=h7 j c hc
 exact ⟨u,r1,r2,r3.lowI (hl c (Xc hc)) hμ,fun n k cs E e=>(r4 n k cs E e).lowJ (cs:=cs) (by rw [←e];exact r3) (by rw [←e];exact ho c (Xc hc)) (fun g eg=>hω _ (.inr ⟨j,rfl⟩) g eg)⟩
theorem Z6.lowJ {S:Nat→Prop} {B B' : Nat→Prop} {Φ:Imm} {μ μ' : Nat→Option Nat} {ω ω' : Nat→Option Who} {w:World} {id:Nat} {X:PMap} (h:Z6 B Φ μ ω w id X) (hs:S id) (hl:LowM S X) (ho:∀es clock,X = .map es clock→∀e∈es,X0s e.2.2) (hμ:∀i,S i→∀g,μ i=some g→μ' i=some g) (hω:∀q,OfId id q→∀g,ω g=some q→(∀o u,Φ g o=some u→Xgj u=false)→ω' g=some q∧B' g):Z6 B' Φ μ' ω' w id X:=by
 obtain ⟨g,h1,h2,h3,h4,h5⟩:=h
 obtain ⟨k1,k2⟩:=hω _ (.inl rfl) g h3 (fun o u e=>by rw [h4] at e;cases e)
 refine ⟨g,hμ _ hs _ h1,k2,k1,h4,?_⟩
 cases X with
 |map es clock=>
  obtain ⟨e0,ents,e1,e2,e3⟩:=h5
  refine ⟨e0,ents,e1,e2,fun j s k c hj=>?_⟩
  obtain ⟨e,f1,f2,f3,f4,f5⟩:=e3 j s k c hj
  have:=hl _ (Xc hj)
  have ho':=ho es clock rfl _ (Xc hj)
  exact ⟨e,f1,f2,f3.lowI this.1 hμ,f4.lowI this.2 hμ,fun n kk cs E ec=>(f5 n kk cs E ec).lowJ (cs:=cs) (by rw [←ec];exact f4) (by rw [←ec];exact ho') (fun g eg=>hω _ (.inr ⟨s,rfl⟩) g eg)⟩
 |iter mid since seen last=>
  obtain ⟨gm,e1,e2⟩:=h5
  exact ⟨gm,hμ _ hl _ e1,e2⟩
end
section
open Go.RowKit
variable {P:Program} {T:Tab}
open Classical in
theorem Xn (hT:T=Kf P) {f:FuncId} {fn:Func} {c:Code} {args:List PV} {given res:List (Nat×List PV)} {gm rm:List (Nat×PMap)} {r:PV} (hf:P.funcs[f]? = some fn) (hb:fn.body=some c) (hcb:X28 P f=true) (hno:∀p∈args,p.ownB=false) (hn:args.length≤fn.ntmps)
  (hbig:∀i∈X0 given gm,1000000≤i) (hnd:(X0 given gm).Nodup) (hok:HOk args given gm r res rm) (h:PW P fn.ntmps c (RetH T fn.results.toList r res rm) (Za args given gm))
  (hfb:GivB given:=by (first|assumption|(repeat (first|exact Xn6|exact Xrt|exact Xrl _|exact rC_owns _|refine Xjd ?_ ?_|refine Xo1 ?_ ?_|exact X9n rfl|exact X8v _ _|assumption)))) (hfm:GivM gm:=by (first|assumption|(repeat (first|exact Xn2|exact Xsu _|refine Xi0 ?_ ?_)))):Xe P f args given gm r res rm:=by
 refine ⟨hcb,fun Φ μ ω w vs himm hgl hrep hgb hgmm hlt=>(callsIn_wide (n:=0)).1 (callsIn_of_wp_marks hf hb trivial ?_)⟩
 have hnd1:(given.map (·.1)).Nodup∧(gm.map (·.1)).Nodup:=by unfold X0 at hnd;rw [List.nodup_append] at hnd;exact ⟨hnd.1,hnd.2.1⟩
 let μ0:Nat→Option Nat:=fun i=>if i∈X0 given gm then μ i else none
 let gv:Nat→Prop:=fun g=>Giv ω (X0 given gm) g∧Mix Φ g
 let ω0:Nat→Option Who:=fun g=>if gv g then ω g else none
 have hμ:∀i,i∈X0 given gm→∀g,μ i=some g→μ0 i=some g:=fun i hi g e=>by show (if _ then _ else _)=_;rw [if_pos hi];exact e
 have hω:∀i,i∈X0 given gm→∀q,OfId i q→∀g,ω g=some q→(∀o u,Φ g o=some u→Xgj u=false)→ω0 g=some q∧(w.heap.size≤g∨gv g):=by
  intro i hi q hq g e hno
  have hgv:gv g:=⟨⟨i,hi,q,hq,e⟩,Xqo hno⟩
  refine ⟨?_, .inr hgv⟩
  show (if _ then _ else _)=_
  rw [if_pos hgv];exact e
 have hω' : ∀g q,ω0 g=some q→ω g=some q∧gv g:=by
  intro g q e
  have e' : (if gv g then ω g else none)=some q:=e
  split at e'
  ·rename_i hg;exact ⟨e',hg⟩
  ·cases e'
 have hrel:Rel ⟨Φ,gv,μ0,hgl,fun g h=>h.2,[],none⟩ w fn.ntmps (Za args given gm) { tmps:=vs.toArray ++ Array.replicate (fn.ntmps - vs.toArray.size) undef,defers := [] } w:=by
  refine ⟨Φ,μ0,ω0,Kept.refl _ _,⟨rfl,fun _ e=>by cases e⟩,by simp [hrep.1];omega,himm,fun _ _ _=>rfl,fun t=>?_,fun t n k cs E e=>?_,fun id bs e=>?_,fun id eb em=>?_,fun g p e=>hlt g p (hω' g p e).1,fun id g e=>?_,fun id g e _=>e,fun b o u e=>⟨e,World.block_lt_of_cell? _ _ (himm b o u e)⟩,fun id X e=>?_,fun g p e=>.inr (hω' g p e).2⟩
  ·simp only [Za]
   cases ht:args[t]? with
   |none=>exact .undef _
   |some p=>
    obtain ⟨u,hu,hru⟩:=hrep.get ht
    have hlt:t < vs.length:=(List.getElem?_eq_some_iff.1 hu).1
    have:(vs.toArray ++ Array.replicate (fn.ntmps - vs.toArray.size) undef).getD t undef=u:=by
     rw [Array.getD_eq_getD_getElem?,Array.getElem?_append_left (by simpa using hlt)]
     simp [hu]
    rw [this]
    exact hru.lowI (hok.ha p (Xc ht)) hμ
  ·simp only [Za] at e
   cases ht:args[t]? with
   |none=>rw [ht] at e;simp at e
   |some p=>
    rw [ht] at e
    simp at e
    have:=hno p (Xc ht)
    rw [e] at this;simp [PV.ownB] at this
  ·simp only [Za] at e
   rcases Ku given _ hnd1.1 e with h1|⟨-,h1⟩
   ·have hi:id∈X0 given gm:=List.mem_append.2 (.inl (List.mem_map.2 ⟨_,h1,rfl⟩))
    exact (hgb _ h1).lowJ hi (hok.hg _ h1) (hfb _ h1) hμ (hω id hi)
   ·cases h1
  ·simp only [Za] at eb em
   have hi:id∉X0 given gm:=by
    intro hi
    rcases List.mem_append.1 hi with hi|hi
    ·obtain ⟨x,hx,rfl⟩:=List.mem_map.1 hi
     rw [Vi given _ hnd1.1 x hx] at eb;cases eb
    ·obtain ⟨x,hx,rfl⟩:=List.mem_map.1 hi
     rw [Vi gm _ hnd1.2 x hx] at em;cases em
   show (if _ then _ else _)=_
   rw [if_neg hi]
  ·have e' : (if id∈X0 given gm then μ id else none)=some g:=e
   split at e'
   ·rename_i hi;exact hbig id hi
   ·cases e'
  ·simp only [Za] at e
   rcases Ku gm _ hnd1.2 e with h1|⟨-,h1⟩
   ·have hi:id∈X0 given gm:=List.mem_append.2 (.inr (List.mem_map.2 ⟨_,h1,rfl⟩))
    exact (hgmm _ h1).lowJ hi (hok.hm _ h1) (hfm _ h1) hμ (hω id hi)
   ·cases h1
 refine wpIn_mono (h _ w _ w hrel) ?_
 rintro e a' w0 ⟨σ',Φ1,W1,hq,hlat,Φ',μ',ω',hg0⟩
 obtain ⟨ms,hd1,hd2,hd3,hg⟩:=RelG.shut rfl rfl hlat hg0
 generalize hw' : shut w0 ms=w' at hg
 have fin:(∃r',V7 T σ' fn.results.toList=some r'∧Weak r' r∧AllW σ' res∧AllM σ' (fun _=>true) rm)→LeavesInM (FW none) 0 P fn a'.tmps (Y3p Φ μ ω w (X0 given gm) r res rm) a'.defers .returning w0:=by
  rintro ⟨r',hpr,hwk,hAb,hAm⟩
  rw [hd1]
  refine X10 ms w0 hd2 hd3 ?_
  rw [hw']
  obtain ⟨v,r1,r2,r3⟩:=X2a hT hg hpr
  refine ⟨v,r1,?_⟩
  -- the slot of the result
  obtain ⟨s,hs⟩:∃s:Nat,r.ownB=true→r' = r∧r=σ'.t s∧v=a'.tmps.getD s undef:=by
   by_cases ho:r.ownB=true
   ·have e1:=hwk.2 ho
    obtain ⟨t,e2,e3⟩:=r3 (by rw [←e1];exact ho)
    exact ⟨t,fun _=>⟨e1.symm,by rw [e1];exact e2,e3⟩⟩
   ·exact ⟨0,fun h=>absurd h ho⟩
  let μ2:Nat→Option Nat:=fun i=>if i∈X0 res rm then μ' i else none
  let ω2:Nat→Option Who:=fun g=>match ω' g with
   |some (.tmp t)=>if t=s∧r.ownB=true then some (.tmp 0) else none
   |x=>x
  have hμ2:∀i,i∈X0 res rm→∀g,μ' i=some g→μ2 i=some g:=fun i hi g e=>by show (if _ then _ else _)=_;rw [if_pos hi];exact e
  have hnew:∀g p,ω' g=some p→X4a ω w (X0 given gm) g:=fun g p e=>(hg.mine g p e).imp id (fun h=>h.1)
  have hω2:∀i q,OfId i q→∀g,ω' g=some q→ω2 g=some q∧X4a ω w (X0 given gm) g:=by
   intro i q hq g e
   refine ⟨?_,hnew g q e⟩
   show (match ω' g with|some (.tmp t)=>_|x=>x)=_
   rw [e]
   rcases hq with rfl|⟨j,rfl⟩<;>rfl
  have hlt2:∀g p,ω2 g=some p→g < w'.heap.size∧X4a ω w (X0 given gm) g:=by
   intro g p e
   have e' : (match ω' g with|some (.tmp t)=>if t=s∧r.ownB=true then some (.tmp 0) else none|x=>x)=some p:=e
   cases hw:ω' g with
   |none=>rw [hw] at e'; cases e'
   |some q=>exact ⟨hg.lt g q hw,hnew g q hw⟩
  have hsubR:∀i∈X0 given gm,i∈X0 res rm:=by
   intro i hi
   rcases List.mem_append.1 hi with hi|hi
   ·exact List.mem_append.2 (.inl (hok.s1 i hi))
   ·exact List.mem_append.2 (.inr (hok.s2 i hi))
  refine ⟨v,Φ',μ2,ω2,rfl,(hwk.1 _ _ _ r2).lowI hok.hr hμ2,hg.imm,fun b o u e=>(hg.ext b o u e).1,fun b o hb hng=>hg.old b o ⟨hb,fun h=>hng h.1⟩,hg.below.mono fun k hk=>⟨hk.1,fun h=>hk.2 h.1⟩,fun i hi=>?_,fun i g e=>?_,fun x hx=>?_,fun x hx=>?_,hlt2,fun n k cs E e=>?_⟩
  ·have hir:=hsubR i hi
   have hsome:∃g,μ i=some g:=by
    rcases List.mem_append.1 hi with h1|h1
    ·obtain ⟨x,hx,rfl⟩:=List.mem_map.1 h1
     obtain ⟨g,_,_,h2,_⟩:=hgb x hx;exact ⟨g,h2⟩
    ·obtain ⟨x,hx,rfl⟩:=List.mem_map.1 h1
     obtain ⟨g,h2,_⟩:=hgmm x hx;exact ⟨g,h2⟩
   obtain ⟨g,hgi⟩:=hsome
   rw [hgi]
   refine hμ2 i hir g (hg.kmu i g (hμ i hi g hgi) ?_)
   rcases List.mem_append.1 hi with h1|h1
   ·left
    obtain ⟨x,hx,rfl⟩:=List.mem_map.1 (hok.s1 i h1)
    obtain ⟨bs,hbs,-⟩:=hAb.mem x hx
    rw [hbs];simp
   ·right
    obtain ⟨x,hx,rfl⟩:=List.mem_map.1 (hok.s2 i h1)
    rw [(hAm.mem x hx).2];simp
  ·have e' : (if i∈X0 res rm then μ' i else none)=some g:=e
   split at e'
   ·assumption
   ·cases e'
  ·obtain ⟨bs,hbs,hw⟩:=hAb.mem x hx
   have hi:x.1∈X0 res rm:=List.mem_append.2 (.inl (List.mem_map.2 ⟨x,hx,rfl⟩))
   exact ((hg.box x.1 bs hbs).weak hw).lowI hi (hok.hres x hx) hμ2 (hω2 x.1)
  ·have hi:x.1∈X0 res rm:=List.mem_append.2 (.inr (List.mem_map.2 ⟨x,hx,rfl⟩))
   exact (hg.map x.1 x.2 (hAm.mem x hx).2).lowI hi (hok.hrm x hx) hμ2 (hω2 x.1)
  ·have hro:r.ownB=true:=by rw [e];rfl
   obtain ⟨e1,e2,e3⟩:=hs hro
   rw [e3]
   rcases hg.own s n k cs E (by rw [←e2,e]) with ho|⟨g,cap,cur,k1,k2,k3,k4,k5,k6,k7,k8⟩|ho
   ·exact .inl ho
   ·refine .inr (.inl ⟨g,cap,cur,k1,hnew g _ k7,k3,k4,k5,k6,?_,k8⟩)
    show (match ω' g with|some (.tmp t)=>_|x=>x)=_
    rw [k7]
    simp [hro]
   ·exact .inr (.inr ho)
 cases e with
 |ret=>exact fin hq
 |normal=>exact fin hq
 |_=>exact hq.elim
theorem RetH.mk {rs:List ResultVar} {r r' : PV} {res:List (Nat×List PV)} {rm:List (Nat×PMap)} {σ:PS} (h1:V7 T σ rs=some r') (h2:Weak r' r) (h3:AllW σ res) (h4:AllM σ (fun _=>true) rm):RetH T rs r res rm .ret σ:=⟨r',h1,h2,h3,h4⟩
end
section
open Go.RowKit
inductive Ren (ρ:Nat→Nat) (S:Nat→Prop):PV→PV→Prop
 |low (p:PV) (h:Low p):Ren ρ S p p
 |ptr (id off:Nat) (h:S id):Ren ρ S (.ptr id off) (.ptr (ρ id) off)
 |msl (id off n k:Nat) (h:S id):Ren ρ S (.msl id off n k) (.msl (ρ id) off n k)
 |mref (id:Nat) (h:S id):Ren ρ S (.mref id) (.mref (ρ id))
 |agg (ps qs:List PV) (hl:ps.length=qs.length) (h:∀(j:Nat) p q,ps[j]? = some p→qs[j]? = some q→Ren ρ S p q):Ren ρ S (.agg ps) (.agg qs)
 |tup (ps qs:List PV) (hl:ps.length=qs.length) (h:∀(j:Nat) p q,ps[j]? = some p→qs[j]? = some q→Ren ρ S p q):Ren ρ S (.tup ps) (.tup qs)
 |fn (f:FuncId) (ps qs:List PV) (hl:ps.length=qs.length) (h:∀(j:Nat) p q,ps[j]? = some p→qs[j]? = some q→Ren ρ S p q):Ren ρ S (.fn f ps) (.fn f qs)
 |sl (n k:Nat) (ps qs:List PV) (hl:ps.length=qs.length) (h:∀(j:Nat) p q,ps[j]? = some p→qs[j]? = some q→Ren ρ S p q):Ren ρ S (.sl n k ps none) (.sl n k qs none)
 |ep (off:Nat) (ps qs:List PV) (hl:ps.length=qs.length) (h:∀(j:Nat) p q,ps[j]? = some p→qs[j]? = some q→Ren ρ S p q):Ren ρ S (.ep ps off) (.ep qs off)
theorem Yh {α β:Type} {ps:List α} {qs:List β} (hl:ps.length=qs.length) {j:Nat} {q:β} (h:qs[j]? = some q):∃p,ps[j]? = some p:=by
 have:=(List.getElem?_eq_some_iff.1 h).1
 exact ⟨ps[j],by simp [hl,this]⟩
theorem Ren.fwd {ρ:Nat→Nat} {S:Nat→Prop} {p q:PV} (h:Ren ρ S p q) {Φ:Imm} {μ μ' : Nat→Option Nat} (hμ:∀i,S i→∀g,μ i=some g→μ' (ρ i)=some g) {v:Value} (hr:Rep Φ μ p v):Rep Φ μ' q v:=by
 induction h generalizing v with
 |low p h=>exact hr.low h
 |ptr id off h=>obtain ⟨g,hg,rfl⟩:=hr.ptr_inv;exact .ptr _ _ g (hμ id h g hg)
 |msl id off n k h=>
  obtain ⟨a,cap,rfl,h1,h2,h3⟩:=hr.msl_inv
  exact .msl _ _ _ _ a cap (fun hn=>by obtain ⟨g,h4,h5⟩:=h3 hn;exact ⟨g,hμ id h g h4,h5⟩) h1 h2
 |mref id h=>obtain ⟨g,hg,rfl⟩:=hr.mref_inv;exact .mref _ g (hμ id h g hg)
 |agg ps qs hl h ih=>
  cases hr with
  |agg _ us hu=>
   rw [hl]
   refine .agg qs us fun j c hc=>?_
   obtain ⟨p,hp⟩:=Yh hl hc
   exact ih j p c hp hc (hu j p hp)
 |tup ps qs hl h ih=>
  cases hr with
  |tup _ us hu=>
   rw [hl]
   refine .tup qs us fun j c hc=>?_
   obtain ⟨p,hp⟩:=Yh hl hc
   exact ih j p c hp hc (hu j p hp)
 |fn f ps qs hl h ih=>
  cases hr with
  |fn _ _ us hu=>
   rw [hl]
   refine .fn f qs us fun j c hc=>?_
   obtain ⟨p,hp⟩:=Yh hl hc
   exact ih j p c hp hc (hu j p hp)
 |sl n k ps qs hl h ih=>
  cases hr with
  |sl0 _ _ a cap hc=>
   obtain rfl:qs = []:=List.eq_nil_of_length_eq_zero hl.symm
   exact .sl0 _ _ _ _ hc
  |sl _ _ _ _ b off cap us h1 h2 h3 hp hu=>
   refine .sl n k qs none b off cap us (by rw [←hl];exact h1) h2 h3 (fun j hj=>hp j (by rw [hl];exact hj)) fun j c hc=>?_
   obtain ⟨p,hp'⟩:=Yh hl hc
   exact ih j p c hp' hc (hu j p hp')
 |ep off ps qs hl h ih=>
  cases hr with
  |ep _ _ b o us hp hu=>
   refine .ep qs off b o us (fun j hj=>hp j (by rw [hl];exact hj)) fun j c hc=>?_
   obtain ⟨p,hp'⟩:=Yh hl hc
   exact ih j p c hp' hc (hu j p hp')
theorem Ren.bwd {ρ:Nat→Nat} {S:Nat→Prop} {p q:PV} (h:Ren ρ S p q) {Φ:Imm} {μ μ' : Nat→Option Nat} (hμ:∀i,S i→∀g,μ' (ρ i)=some g→μ i=some g) {v:Value} (hr:Rep Φ μ' q v):Rep Φ μ p v:=by
 induction h generalizing v with
 |low p h=>exact hr.low h
 |ptr id off h=>obtain ⟨g,hg,rfl⟩:=hr.ptr_inv;exact .ptr _ _ g (hμ id h g hg)
 |msl id off n k h=>
  obtain ⟨a,cap,rfl,h1,h2,h3⟩:=hr.msl_inv
  exact .msl _ _ _ _ a cap (fun hn=>by obtain ⟨g,h4,h5⟩:=h3 hn;exact ⟨g,hμ id h g h4,h5⟩) h1 h2
 |mref id h=>obtain ⟨g,hg,rfl⟩:=hr.mref_inv;exact .mref _ g (hμ id h g hg)
 |agg ps qs hl h ih=>
  cases hr with
  |agg _ us hu=>
   rw [←hl]
   refine .agg ps us fun j c hc=>?_
   obtain ⟨p,hp⟩:=Yh hl.symm hc
   exact ih j c p hc hp (hu j p hp)
 |tup ps qs hl h ih=>
  cases hr with
  |tup _ us hu=>
   rw [←hl]
   refine .tup ps us fun j c hc=>?_
   obtain ⟨p,hp⟩:=Yh hl.symm hc
   exact ih j c p hc hp (hu j p hp)
 |fn f ps qs hl h ih=>
  cases hr with
  |fn _ _ us hu=>
   rw [←hl]
   refine .fn f ps us fun j c hc=>?_
   obtain ⟨p,hp⟩:=Yh hl.symm hc
   exact ih j c p hc hp (hu j p hp)
 |sl n k ps qs hl h ih=>
  cases hr with
  |sl0 _ _ a cap hc=>
   obtain rfl:ps = []:=List.eq_nil_of_length_eq_zero hl
   exact .sl0 _ _ _ _ hc
  |sl _ _ _ _ b off cap us h1 h2 h3 hp hu=>
   refine .sl n k ps none b off cap us (by rw [hl];exact h1) h2 h3 (fun j hj=>hp j (by rw [←hl];exact hj)) fun j c hc=>?_
   obtain ⟨p,hp'⟩:=Yh hl.symm hc
   exact ih j c p hc hp' (hu j p hp')
 |ep off ps qs hl h ih=>
  cases hr with
  |ep _ _ b o us hp hu=>
   refine .ep ps off b o us (fun j hj=>hp j (by rw [←hl];exact hj)) fun j c hc=>?_
   obtain ⟨p,hp'⟩:=Yh hl.symm hc
   exact ih j c p hc hp' (hu j p hp')
theorem Ren.own {ρ:Nat→Nat} {S:Nat→Prop} {p q:PV} (h:Ren ρ S p q):(p.ownB=true∨q.ownB=true)→p=q:=by
 intro ho
 cases h with
 |low p h=>rfl
 |_=>simp [PV.ownB] at ho
def RenL (ρ:Nat→Nat) (S:Nat→Prop) (ps qs:List PV):Prop:=ps.length=qs.length∧∀(j:Nat) p q,ps[j]? = some p→qs[j]? = some q→Ren ρ S p q
theorem RenL.nil {ρ:Nat→Nat} {S:Nat→Prop} : RenL ρ S [] []:=⟨rfl,fun j p q h=>by simp at h⟩
theorem RenL.cons {ρ:Nat→Nat} {S:Nat→Prop} {p q:PV} {ps qs:List PV} (h:Ren ρ S p q) (hs:RenL ρ S ps qs):RenL ρ S (p :: ps) (q :: qs):=by
 refine ⟨by simp [hs.1],fun j p' q' h1 h2=>?_⟩
 cases j with
 |zero=>simp at h1 h2;subst h1 h2;exact h
 |succ j=>simp at h1 h2;exact hs.2 j p' q' h1 h2
theorem RenL.low {ρ:Nat→Nat} {S:Nat→Prop} {ps:List PV} (h:∀p∈ps,Low p):RenL ρ S ps ps:=⟨rfl,fun j p q h1 h2=>by rw [h1] at h2;cases h2;exact .low p (h p (Xc h1))⟩
def RenM (ρ:Nat→Nat) (S:Nat→Prop):PMap→PMap→Prop
 | .map es c, .map fs d=>c=d∧es.length=fs.length∧∀(j:Nat) e f,es[j]? = some e→fs[j]? = some f→e.1=f.1∧Ren ρ S e.2.1 f.2.1∧Ren ρ S e.2.2 f.2.2
 | .iter mid si se la, .iter mid' si' se' la' => S mid∧mid' = ρ mid∧si=si'∧se=se'∧la=la'
 |_,_=>False
theorem RenM.low {ρ:Nat→Nat} {S:Nat→Prop} {es:List (Nat×PV×PV)} {c:Nat} (h:∀e∈es,Low e.2.1∧Low e.2.2):RenM ρ S (.map es c) (.map es c):=⟨rfl,rfl,fun j e f h1 h2=>by rw [h1] at h2;cases h2;exact ⟨rfl, .low _ (h e (Xc h1)).1, .low _ (h e (Xc h1)).2⟩⟩
inductive RenB (ρ:Nat→Nat) (S:Nat→Prop):List (Nat×List PV)→List (Nat×List PV)→Prop
 |nil:RenB ρ S [] []
 |cons (i:Nat) (bs cs:List PV) (l l' : List (Nat×List PV)) (h:RenL ρ S bs cs) (hs:RenB ρ S l l'):RenB ρ S ((i,bs) :: l) ((ρ i,cs) :: l')
inductive Kc (ρ:Nat→Nat) (S:Nat→Prop):List (Nat×PMap)→List (Nat×PMap)→Prop
 |nil:Kc ρ S [] []
 |cons (i:Nat) (X Y:PMap) (l l' : List (Nat×PMap)) (h:RenM ρ S X Y) (hs:Kc ρ S l l'):Kc ρ S ((i,X) :: l) ((ρ i,Y) :: l')
theorem RenB.mem {ρ:Nat→Nat} {S:Nat→Prop} {l l' : List (Nat×List PV)} (h:RenB ρ S l l'):(∀x∈l,∃y∈l',y.1=ρ x.1∧RenL ρ S x.2 y.2)∧(∀y∈l',∃x∈l,y.1=ρ x.1∧RenL ρ S x.2 y.2)∧l'.map (·.1)=(l.map (·.1)).map ρ:=by
 induction h with
 |nil=>simp
 |cons i bs cs l l' h hs ih=>
  obtain ⟨h1,h2,h3⟩:=ih
  refine ⟨fun x hx=>?_,fun y hy=>?_,by simp [h3]⟩
  ·rcases List.mem_cons.1 hx with rfl|hx
   ·exact ⟨_,List.mem_cons_self,rfl,h⟩
   ·obtain ⟨y,hy,e⟩:=h1 x hx;exact ⟨y,by simp [hy],e⟩
  ·rcases List.mem_cons.1 hy with rfl|hy
   ·exact ⟨_,List.mem_cons_self,rfl,h⟩
   ·obtain ⟨x,hx,e⟩:=h2 y hy;exact ⟨x,by simp [hx],e⟩
theorem Kc.mem {ρ:Nat→Nat} {S:Nat→Prop} {l l' : List (Nat×PMap)} (h:Kc ρ S l l'):(∀x∈l,∃y∈l',y.1=ρ x.1∧RenM ρ S x.2 y.2)∧(∀y∈l',∃x∈l,y.1=ρ x.1∧RenM ρ S x.2 y.2)∧l'.map (·.1)=(l.map (·.1)).map ρ:=by
 induction h with
 |nil=>simp
 |cons i bs cs l l' h hs ih=>
  obtain ⟨h1,h2,h3⟩:=ih
  refine ⟨fun x hx=>?_,fun y hy=>?_,by simp [h3]⟩
  ·rcases List.mem_cons.1 hx with rfl|hx
   ·exact ⟨_,List.mem_cons_self,rfl,h⟩
   ·obtain ⟨y,hy,e⟩:=h1 x hx;exact ⟨y,by simp [hy],e⟩
  ·rcases List.mem_cons.1 hy with rfl|hy
   ·exact ⟨_,List.mem_cons_self,rfl,h⟩
   ·obtain ⟨x,hx,e⟩:=h2 y hy;exact ⟨x,by simp [hx],e⟩
def renW (ρ:Nat→Nat):Who→Who
 | .box i=>.box (ρ i)
 | .cell i j=>.cell (ρ i) j
 | .tmp t=>.tmp t
theorem V2.fwd {ρ:Nat→Nat} {S:Nat→Prop} {B B' : Nat→Prop} {Φ:Imm} {μ μ' : Nat→Option Nat} {ω ω' : Nat→Option Who} {w:World} {i:Nat} {bs cs:List PV} (h:V2 B Φ μ ω w i bs) (hs:S i) (hr:RenL ρ S bs cs) (hμ:∀i,S i→∀g,μ i=some g→μ' (ρ i)=some g) (hω:∀q,OfId i q→∀g,ω g=some q→ω' g=some (renW ρ q)∧(B g→B' g)):V2 B' Φ μ' ω' w (ρ i) cs:=by
 obtain ⟨g,cur,T,h1,h2,h3,h4,h5,h6,h7⟩:=h
 obtain ⟨k1,k2⟩:=hω _ (.inl rfl) g h4
 refine ⟨g,cur,T,hμ i hs g h1,h2,k2 h3,k1,h5,(by have:=hr.1;omega),fun j c hc=>?_⟩
 obtain ⟨p,hp⟩:=Yh hr.1 hc
 obtain ⟨u,r1,r2,r3,r4⟩:=h7 j p hp
 have hpc:=hr.2 j p c hp hc
 refine ⟨u,r1,r2,hpc.fwd hμ r3,fun n k cs' E e=>?_⟩
 have hpe:p=c:=hpc.own (.inr (by rw [e];rfl))
 rcases r4 n k cs' E (by rw [hpe,e]) with q|⟨g',cap,cur',q1,q2,q3,q4,q5,q6,q7,q8⟩|q
 ·exact .inl q
 ·obtain ⟨k3,k4⟩:=hω _ (.inr ⟨j,rfl⟩) g' q7
  exact .inr (.inl ⟨g',cap,cur',q1,k4 q2,q3,q4,q5,q6,k3,q8⟩)
 ·exact .inr (.inr q)
theorem V2.bwd {ρ:Nat→Nat} {S:Nat→Prop} {B B' : Nat→Prop} {Φ:Imm} {μ μ' : Nat→Option Nat} {ω ω' : Nat→Option Who} {w:World} {i:Nat} {bs cs:List PV} (h:V2 B' Φ μ' ω' w (ρ i) cs) (hs:S i) (hr:RenL ρ S bs cs) (hμ:∀i,S i→∀g,μ' (ρ i)=some g→μ i=some g) (hω:∀q,OfId i q→∀g,ω' g=some (renW ρ q)→ω g=some q∧(B' g→B g)):V2 B Φ μ ω w i bs:=by
 obtain ⟨g,cur,T,h1,h2,h3,h4,h5,h6,h7⟩:=h
 obtain ⟨k1,k2⟩:=hω _ (.inl rfl) g h4
 refine ⟨g,cur,T,hμ i hs g h1,h2,k2 h3,k1,h5,(by have:=hr.1;omega),fun j p hp=>?_⟩
 obtain ⟨c,hc⟩:=Yh hr.1.symm hp
 obtain ⟨u,r1,r2,r3,r4⟩:=h7 j c hc
 have hpc:=hr.2 j p c hp hc
 refine ⟨u,r1,r2,hpc.bwd hμ r3,fun n k cs' E e=>?_⟩
 have hpe:p=c:=hpc.own (.inl (by rw [e];rfl))
 rcases r4 n k cs' E (by rw [←hpe,e]) with q|⟨g',cap,cur',q1,q2,q3,q4,q5,q6,q7,q8⟩|q
 ·exact .inl q
 ·obtain ⟨k3,k4⟩:=hω _ (.inr ⟨j,rfl⟩) g' q7
  exact .inr (.inl ⟨g',cap,cur',q1,k4 q2,q3,q4,q5,q6,k3,q8⟩)
 ·exact .inr (.inr q)
theorem RenM.stamps {ρ:Nat→Nat} {S:Nat→Prop} {es fs:List (Nat×PV×PV)} {c d:Nat} (h:RenM ρ S (.map es c) (.map fs d)):es.map (·.1)=fs.map (·.1):=by
 obtain ⟨rfl,hl,hj⟩:=h
 apply List.ext_getElem?
 intro j
 rw [M_,M_]
 cases he:es[j]? with
 |none=>rw [List.getElem?_eq_none (by rw [←hl];exact List.getElem?_eq_none_iff.1 he)]
 |some e=>
  obtain ⟨f,hf⟩:=Yh hl.symm he
  rw [hf]
  simp [(hj j e f he hf).1]
theorem X6n {es fs:List (Nat×PV×PV)} {c:Nat} (h:es.map (·.1)=fs.map (·.1)) (hs:X41 es c):X41 fs c:=by
 refine ⟨by rw [←h];exact hs.1,fun e he=>?_⟩
 have:e.1∈es.map (·.1):=by rw [h];exact List.mem_map.2 ⟨e,he,rfl⟩
 obtain ⟨x,hx,e2⟩:=List.mem_map.1 this
 rw [←e2];exact hs.2 x hx
theorem Z6.fwd {ρ:Nat→Nat} {S:Nat→Prop} {B B' : Nat→Prop} {Φ:Imm} {μ μ' : Nat→Option Nat} {ω ω' : Nat→Option Who} {w:World} {i:Nat} {X Y:PMap} (h:Z6 B Φ μ ω w i X) (hs:S i) (hr:RenM ρ S X Y) (hμ:∀i,S i→∀g,μ i=some g→μ' (ρ i)=some g) (hω:∀q,OfId i q→∀g,ω g=some q→ω' g=some (renW ρ q)∧(B g→B' g)):Z6 B' Φ μ' ω' w (ρ i) Y:=by
 obtain ⟨g,h1,h2,h3,h4,h5⟩:=h
 obtain ⟨k1,k2⟩:=hω _ (.inl rfl) g h3
 refine ⟨g,hμ i hs g h1,k2 h2,k1,h4,?_⟩
 cases X with
 |map es c=>cases Y with
  |map fs d=>
   have hst:=hr.stamps
   obtain ⟨rfl,hl,hj⟩:=hr
   obtain ⟨e0,ents,e1,e2,e3⟩:=h5
   refine ⟨X6n hst e0,ents,e1,by rw [e2,hl],fun j s k c hc=>?_⟩
   obtain ⟨e,he⟩:=Yh hl hc
   obtain ⟨q1,q2,q3⟩:=hj j e _ he hc
   obtain ⟨en,f1,f2,f3,f4,f5⟩:=e3 j e.1 e.2.1 e.2.2 he
   refine ⟨en,f1,by rw [f2,q1],q2.fwd hμ f3,q3.fwd hμ f4,fun n kk cs E ec=>?_⟩
   have hpe:e.2.2=c:=q3.own (.inr (by simp only [ec,PV.ownB]))
   rcases f5 n kk cs E (by rw [hpe,ec]) with q|⟨g',cap,cur',p1,p2,p3,p4,p5,p6,p7,p8⟩|q
   ·exact .inl q
   ·obtain ⟨k3,k4⟩:=hω _ (.inr ⟨_,rfl⟩) g' p7
    have:s=e.1:=q1.symm
    subst this
    exact .inr (.inl ⟨g',cap,cur',p1,k4 p2,p3,p4,p5,p6,k3,p8⟩)
   ·exact .inr (.inr q)
  |iter=>exact hr.elim
 |iter mid si se la=>cases Y with
  |map=>exact hr.elim
  |iter mid' si' se' la' =>
   obtain ⟨q1,rfl,rfl,rfl,rfl⟩:=hr
   obtain ⟨gm,e1,e2⟩:=h5
   exact ⟨gm,hμ mid q1 gm e1,e2⟩
theorem Z6.bwd {ρ:Nat→Nat} {S:Nat→Prop} {B B' : Nat→Prop} {Φ:Imm} {μ μ' : Nat→Option Nat} {ω ω' : Nat→Option Who} {w:World} {i:Nat} {X Y:PMap} (h:Z6 B' Φ μ' ω' w (ρ i) Y) (hs:S i) (hr:RenM ρ S X Y) (hμ:∀i,S i→∀g,μ' (ρ i)=some g→μ i=some g) (hω:∀q,OfId i q→∀g,ω' g=some (renW ρ q)→ω g=some q∧(B' g→B g)):Z6 B Φ μ ω w i X:=by
 obtain ⟨g,h1,h2,h3,h4,h5⟩:=h
 obtain ⟨k1,k2⟩:=hω _ (.inl rfl) g h3
 refine ⟨g,hμ i hs g h1,k2 h2,k1,h4,?_⟩
 cases X with
 |map es c=>cases Y with
  |map fs d=>
   have hst:=hr.stamps
   obtain ⟨rfl,hl,hj⟩:=hr
   obtain ⟨e0,ents,e1,e2,e3⟩:=h5
   refine ⟨X6n hst.symm e0,ents,e1,by rw [e2,hl],fun j s k c hc=>?_⟩
   obtain ⟨e,he⟩:=Yh hl.symm hc
   obtain ⟨q1,q2,q3⟩:=hj j _ e hc he
   obtain ⟨en,f1,f2,f3,f4,f5⟩:=e3 j e.1 e.2.1 e.2.2 he
   refine ⟨en,f1,by rw [f2,←q1],q2.bwd hμ f3,q3.bwd hμ f4,fun n kk cs E ec=>?_⟩
   have hpe:c=e.2.2:=q3.own (.inl (by simp only [ec,PV.ownB]))
   rcases f5 n kk cs E (by rw [←hpe,ec]) with q|⟨g',cap,cur',p1,p2,p3,p4,p5,p6,p7,p8⟩|q
   ·exact .inl q
   ·have:s=e.1:=q1
    subst this
    obtain ⟨k3,k4⟩:=hω (.cell i e.1) (.inr ⟨_,rfl⟩) g' p7
    exact .inr (.inl ⟨g',cap,cur',p1,k4 p2,p3,p4,p5,p6,k3,p8⟩)
   ·exact .inr (.inr q)
  |iter=>exact hr.elim
 |iter mid si se la=>cases Y with
  |map=>exact hr.elim
  |iter mid' si' se' la' =>
   obtain ⟨q1,rfl,rfl,rfl,rfl⟩:=hr
   obtain ⟨gm,e1,e2⟩:=h5
   exact ⟨gm,hμ mid q1 gm e1,e2⟩
open Classical in
theorem Xe.ren {P:Program} {f:FuncId} {args args' : List PV} {given given' res res' : List (Nat×List PV)} {gm gm' rm rm' : List (Nat×PMap)} {r r' : PV} (h:Xe P f args given gm r res rm) (ρ:Nat→Nat) (hs1:∀i∈given.map (·.1),i∈res.map (·.1)) (hs2:∀i∈gm.map (·.1),i∈rm.map (·.1))
  (hinj:∀i∈X0 res rm,∀j∈X0 res rm,ρ i=ρ j→i=j) (ha:RenL ρ (fun i=>i∈X0 given gm) args args') (hg:RenB ρ (fun i=>i∈X0 given gm) given given') (hm:Kc ρ (fun i=>i∈X0 given gm) gm gm')
  (hr:Ren ρ (fun i=>i∈X0 res rm) r r') (hres:RenB ρ (fun i=>i∈X0 res rm) res res') (hrm:Kc ρ (fun i=>i∈X0 res rm) rm rm'):Xe P f args' given' gm' r' res' rm':=by
 refine ⟨h.1,fun Φ μ ω w vs himm hgl hrep hgb hgmm hlt=>?_⟩
 have hsub:∀i∈X0 given gm,i∈X0 res rm:=by
  intro i hi
  rcases List.mem_append.1 hi with hi|hi
  ·exact List.mem_append.2 (.inl (hs1 i hi))
  ·exact List.mem_append.2 (.inr (hs2 i hi))
 obtain ⟨g1,g2,g3⟩:=hg.mem
 obtain ⟨m1,m2,m3⟩:=hm.mem
 obtain ⟨b1,b2,b3⟩:=hres.mem
 obtain ⟨c1,c2,c3⟩:=hrm.mem
 have hids:X0 given' gm' = (X0 given gm).map ρ:=by simp only [X0,g3,m3,List.map_append]
 have hrids:X0 res' rm' = (X0 res rm).map ρ:=by simp only [X0,b3,c3,List.map_append]
 let μ1:Nat→Option Nat:=fun i=>if i∈X0 given gm then μ (ρ i) else none
 let ω1:Nat→Option Who:=fun g=>if hh:∃q,(∃i∈X0 given gm,OfId i q)∧ω g=some (renW ρ q) then some hh.choose else none
 have winj:∀q q',(∃i∈X0 given gm,OfId i q)→(∃i∈X0 given gm,OfId i q')→renW ρ q=renW ρ q'→q=q':=by
  rintro q q' ⟨i,hi,hq⟩ ⟨j,hj,hq'⟩ e
  rcases hq with rfl|⟨x,rfl⟩<;>rcases hq' with rfl|⟨y,rfl⟩
  ·simp only [renW,Who.box.injEq] at e;rw [hinj i (hsub i hi) j (hsub j hj) e]
  ·simp [renW] at e
  ·simp [renW] at e
  ·simp only [renW,Who.cell.injEq] at e;rw [hinj i (hsub i hi) j (hsub j hj) e.1,e.2]
 have hω1:∀g q,(∃i∈X0 given gm,OfId i q)→(ω1 g=some q↔ω g=some (renW ρ q)):=by
  intro g q hq
  constructor
  ·intro e
   have e' : (if hh:∃q,(∃i∈X0 given gm,OfId i q)∧ω g=some (renW ρ q) then some hh.choose else none)=some q:=e
   split at e'
   ·rename_i hh
    have:=hh.choose_spec.2
    cases e'
    exact this
   ·cases e'
  ·intro e
   show (if hh:_ then _ else _)=_
   have hh:∃q,(∃i∈X0 given gm,OfId i q)∧ω g=some (renW ρ q):=⟨q,hq,e⟩
   rw [dif_pos hh]
   have h2:=hh.choose_spec
   have h3:some (renW ρ q)=some (renW ρ hh.choose):=e.symm.trans h2.2
   simp only [Option.some.injEq] at h3
   rw [winj _ _ h2.1 hq h3.symm]
 have hω1' : ∀g q,ω1 g=some q→(∃i∈X0 given gm,OfId i q)∧ω g=some (renW ρ q):=by
  intro g q e
  have e' : (if hh:∃q,(∃i∈X0 given gm,OfId i q)∧ω g=some (renW ρ q) then some hh.choose else none)=some q:=e
  split at e'
  ·rename_i hh
   have:=hh.choose_spec
   cases e'
   exact this
  ·cases e'
 have hgiv:∀g,Giv ω1 (X0 given gm) g↔Giv ω (X0 given' gm') g:=by
  intro g
  constructor
  ·rintro ⟨i,hi,q,hq,e⟩
   refine ⟨ρ i,by rw [hids];exact List.mem_map.2 ⟨i,hi,rfl⟩,renW ρ q,?_,(hω1' g q e).2⟩
   rcases hq with rfl|⟨j,rfl⟩
   ·exact .inl rfl
   ·exact .inr ⟨j,rfl⟩
  ·rintro ⟨i',hi0,q',hq,e⟩
   rw [hids] at hi0
   obtain ⟨i,hi,rfl⟩:=List.mem_map.1 hi0
   rcases hq with rfl|⟨j,rfl⟩
   ·exact ⟨i,hi, .box i, .inl rfl,(hω1 g _ ⟨i,hi, .inl rfl⟩).2 e⟩
   ·exact ⟨i,hi, .cell i j, .inr ⟨j,rfl⟩,(hω1 g _ ⟨i,hi, .inr ⟨j,rfl⟩⟩).2 e⟩
 have hμ1:∀i,i∈X0 given gm→∀g,μ (ρ i)=some g→μ1 i=some g:=fun i hi g e=>by show (if _ then _ else _)=_;rw [if_pos hi];exact e
 have hrep1:RepL Φ μ1 args vs:=⟨by rw [hrep.1,ha.1],fun j p u hp hu=>by
  obtain ⟨q,hq⟩:=Yh ha.1.symm hp
  exact (ha.2 j p q hp hq).bwd hμ1 (hrep.2 j q u hq hu)⟩
 refine (h.2 Φ μ1 ω1 w vs himm hgl hrep1 (fun x hx=>?_) (fun x hx=>?_) (fun g p e=>hlt g _ (hω1' g p e).2)).mono ?_
 ·obtain ⟨y,hy,e1,e2⟩:=g1 x hx
  have hi:x.1∈X0 given gm:=List.mem_append.2 (.inl (List.mem_map.2 ⟨x,hx,rfl⟩))
  have:=hgb y hy
  rw [e1] at this
  exact this.bwd hi e2 hμ1 (fun q hq g e=>⟨(hω1 g q ⟨x.1,hi,hq⟩).2 e,fun _=>trivial⟩)
 ·obtain ⟨y,hy,e1,e2⟩:=m1 x hx
  have hi:x.1∈X0 given gm:=List.mem_append.2 (.inr (List.mem_map.2 ⟨x,hx,rfl⟩))
  have:=hgmm y hy
  rw [e1] at this
  exact this.bwd hi e2 hμ1 (fun q hq g e=>⟨(hω1 g q ⟨x.1,hi,hq⟩).2 e,fun _=>trivial⟩)
 rintro e w' ⟨v,Φ',μ',ω',rfl,k1,k2,k3,k4,k5,k6,k7,k8,k9,k10,k11⟩
 let μ2:Nat→Option Nat:=fun i' => if hh:∃i∈X0 res rm,ρ i=i' then μ' hh.choose else none
 have hμ2:∀i,i∈X0 res rm→μ2 (ρ i)=μ' i:=by
  intro i hi
  show (if hh:_ then _ else _)=_
  have hh:∃j∈X0 res rm,ρ j=ρ i:=⟨i,hi,rfl⟩
  rw [dif_pos hh]
  have:=hh.choose_spec
  rw [hinj _ this.1 _ hi this.2]
 have hμ2' : ∀i,i∈X0 res rm→∀g,μ' i=some g→μ2 (ρ i)=some g:=fun i hi g e=>by rw [hμ2 i hi];exact e
 let ω2:Nat→Option Who:=fun g=>(ω' g).map (renW ρ)
 have hnew:∀g,X4a ω1 w (X0 given gm) g↔X4a ω w (X0 given' gm') g:=fun g=>or_congr Iff.rfl (hgiv g)
 refine ⟨v,Φ',μ2,ω2,rfl,hr.fwd hμ2' k1,k2,k3,fun b o hb hng=>k4 b o hb (fun hh=>hng ((hgiv b).1 hh)),k5.mono fun k hk=>⟨hk.1,fun hh=>hk.2 ((hgiv k).1 hh)⟩,fun i' hi' => ?_,fun i' g e=>?_,fun y hy=>?_,fun y hy=>?_,fun g p e=>?_,fun n k cs E e=>?_⟩
 ·rw [hids] at hi'
  obtain ⟨i,hi,rfl⟩:=List.mem_map.1 hi'
  rw [hμ2 i (hsub i hi),k6 i hi]
  show (if _ then _ else _)=_
  rw [if_pos hi]
 ·have e' : (if hh:∃i∈X0 res rm,ρ i=i' then μ' hh.choose else none)=some g:=e
  split at e'
  ·rename_i hh
   obtain ⟨i,hi,rfl⟩:=hh
   rw [hrids];exact List.mem_map.2 ⟨i,hi,rfl⟩
  ·cases e'
 ·obtain ⟨x,hx,e1,e2⟩:=b2 y hy
  have hi:x.1∈X0 res rm:=List.mem_append.2 (.inl (List.mem_map.2 ⟨x,hx,rfl⟩))
  rw [e1]
  exact (k8 x hx).fwd hi e2 hμ2' (fun q hq g e=>⟨by show (ω' g).map _=_;rw [e];rfl,fun hb=>(hnew g).1 hb⟩)
 ·obtain ⟨x,hx,e1,e2⟩:=c2 y hy
  have hi:x.1∈X0 res rm:=List.mem_append.2 (.inr (List.mem_map.2 ⟨x,hx,rfl⟩))
  rw [e1]
  exact (k9 x hx).fwd hi e2 hμ2' (fun q hq g e=>⟨by show (ω' g).map _=_;rw [e];rfl,fun hb=>(hnew g).1 hb⟩)
 ·have e' : (ω' g).map (renW ρ)=some p:=e
  obtain ⟨q,hq,-⟩:=Option.map_eq_some_iff.1 e'
  exact ⟨(k10 g q hq).1,(hnew g).1 (k10 g q hq).2⟩
 ·have hre:r=r':=hr.own (.inr (by rw [e];rfl))
  rcases k11 n k cs E (by rw [hre,e]) with q|⟨g',cap,cur',q1,q2,q3,q4,q5,q6,q7,q8⟩|q
  ·exact .inl q
  ·exact .inr (.inl ⟨g',cap,cur',q1,(hnew g').1 q2,q3,q4,q5,q6,by show (ω' g').map _=_;rw [q7];rfl,q8⟩)
  ·exact .inr (.inr q)
end
section
open Go.RowKit
variable {P:Program} {M:Nat} {Q:Exit→PS→Prop} {σ:PS} {T:Tab} {ops:Array Oper} {i:Nat} {o:Oper} {rest:List (Nat×Oper)} {K:PS→Prop}
def Xpm:PV→Option PV
 | .undef=>some .undef
 | .val (.int k n)=>some (.val (.int k n))
 | .val (.bool b)=>some (.val (.bool b))
 | .val (.string b)=>some (.val (.string b))
 | .val v=>some (.val v)
 | .nilsl=>some .nilsl
 | .sl n k cs o=>some (.sl n k cs o)
 | .ptr id off=>some (.ptr id off)
 | .msl id off n k=>some (.msl id off n k)
 | .ep cs off=>some (.ep cs off)
 | .fn f cs=>some (.fn f cs)
 | .agg cs=>some (.agg cs)
 | .tup cs=>some (.tup cs)
 | .mref id=>some (.mref id)
theorem Xap {p q:PV} (h:Xpm p=some q):p=q:=by
 unfold Xpm at h
 split at h<;>simpa using h
def X72:List PV→Option (List PV)
 | []=>some []
 |c :: cs=>match Xpm c,X72 cs with
  |some d,some ds=>some (d :: ds)
  |_,_=>none
theorem Zg:∀{l r:List PV},X72 l=some r→l=r
 | [],r,h=>by simpa [X72] using h
 |c :: cs,r,h=>by
  simp only [X72] at h
  split at h
  ·rename_i d ds h1 h2
   rw [Xap h1,Zg h2]
   simpa using h
  ·cases h
def fval:PV→Option PV
 | .agg cs=>(X72 cs).map .agg
 | .tup cs=>(X72 cs).map .tup
 | .fn f cs=>(X72 cs).map (.fn f)
 |p=>Xpm p
theorem Zk {p q:PV} (h:fval p=some q):p=q:=by
 unfold fval at h
 split at h
 ·obtain ⟨r,hr,rfl⟩:=Option.map_eq_some_iff.1 h;rw [Zg hr]
 ·obtain ⟨r,hr,rfl⟩:=Option.map_eq_some_iff.1 h;rw [Zg hr]
 ·obtain ⟨r,hr,rfl⟩:=Option.map_eq_some_iff.1 h;rw [Zg hr]
 ·exact Xap h
def feff:Option Eff→Option PV
 |some ⟨v,[],none,[]⟩=>fval v
 |_=>none
def Y6w:Option Eff→Option (PV×Nat)
 |some ⟨v,[],some s,[]⟩=>(fval v).map fun p=>(p,s)
 |_=>none
def Xy5:Option Eff→Option (PV×Nat×List PV)
 |some ⟨v,[(id,cs)],none,[]⟩=>match fval v,X72 cs with
  |some p,some l=>some (p,id,l)
  |_,_=>none
 |_=>none
def PS.setb (σ:PS) (id:Nat) (cs:List PV):PS:={ t:=σ.t,b:=upd σ.b id (some cs),m:=σ.m }
def PS.setm (σ:PS) (id:Nat) (X:PMap):PS:={ t:=σ.t,b:=σ.b,m:=upd σ.m id (some X) }
end
section
open Go.RowKit
variable {P:Program} {M:Nat} {Q:Exit→PS→Prop} {σ:PS} {T:Tab} {ops:Array Oper} {i:Nat} {o:Oper} {rest:List (Nat×Oper)} {K:PS→Prop}
variable {base:Nat} {ok:Nat→Nat→Bool}
theorem X5.step {E:Eff} (hg:Xk ops σ o=some true) (hE:presE T (Yr ops o.dst) (base+i) (σ.only (ok i)) o.op=some E) (hb:σ.freeB (base+i)=true) (k:X5 P T ops base ok rest K (σ.app o.dst E)):X5 P T ops base ok ((i,o) :: rest) K σ:=by
 exact ⟨E, .inr ⟨hg, .inl ⟨.inl hE,hb⟩⟩,k⟩
theorem X5.stepM {E:Eff} (hg:Xk ops σ o=some true) (hE:Zf T (Yr ops o.dst) (base+i) (σ.only (ok i)) o.op=some E) (hb:σ.freeB (base+i)=true) (k:X5 P T ops base ok rest K (σ.app o.dst E)):X5 P T ops base ok ((i,o) :: rest) K σ:=by
 exact ⟨E, .inr ⟨hg, .inl ⟨.inr hE,hb⟩⟩,k⟩
theorem X5.val {d:Nat} {p:PV} (hg:Xk ops σ o=some true) (hd:o.dst=some d) (hE:feff (presE T (Yr ops o.dst) (base+i) (σ.only (ok i)) o.op)=some p) (hb:σ.freeB (base+i)=true) (k:X5 P T ops base ok rest K (σ.put d p)):X5 P T ops base ok ((i,o) :: rest) K σ:=by
 unfold feff at hE
 split at hE
 ·rename_i v h
  refine X5.step hg h hb ?_
  rw [hd,Zk hE]
  exact k
 ·cases hE
theorem X5.own {d s:Nat} {p q:PV} (hg:Xk ops σ o=some true) (hd:o.dst=some d) (hE:Y6w (presE T (Yr ops o.dst) (base+i) (σ.only (ok i)) o.op)=some (p,s)) (hb:σ.freeB (base+i)=true) (hq:fval (σ.t s).bare=some q) (k:X5 P T ops base ok rest K ((σ.put s q).put d p)):X5 P T ops base ok ((i,o) :: rest) K σ:=by
 unfold Y6w at hE
 split at hE
 ·rename_i v s' h
  obtain ⟨p',hp,e⟩:=Option.map_eq_some_iff.1 hE
  cases e
  refine X5.step hg h hb ?_
  rw [hd,Zk hp]
  simp only [PS.app,List.foldl_nil,List.foldl_cons]
  rw [Zk hq]
  exact k
 ·cases hE
def Ybc:Op→Bool
 | .buildSlice .. => true
 |_=>false
def Y8e:Option Eff→Option (Nat×Nat×List PV×TypeId)
 |some ⟨.sl n k cs (some e),[],none,[]⟩=>match X72 cs with
  |some l=>some (n,k,l,e)
  |none=>none
 |_=>none
theorem X5.lit {d n k e:Nat} {l:List PV} (hl:Ybc o.op=true) (hg:Xk ops σ o=some true) (hd:o.dst=some d) (hE:Y8e (presE T (Yr ops o.dst) (base+i) (σ.only (ok i)) o.op)=some (n,k,l,e)) (hb:σ.freeB (base+i)=true) (kn:X5 P T ops base ok rest K (σ.put d (.sl n k l (some e)))):X5 P T ops base ok ((i,o) :: rest) K σ:=by
 unfold Y8e at hE
 split at hE
 ·rename_i n' k' cs' e' h
  split at hE
  ·rename_i l' hl'
   cases hE
   refine X5.step hg h hb ?_
   rw [hd,Zg hl']
   exact kn
  ·cases hE
 ·cases hE
theorem X5.store {id:Nat} {p:PV} {cs:List PV} (hg:Xk ops σ o=some true) (hd:o.dst=none) (hE:Xy5 (presE T (Yr ops o.dst) (base+i) (σ.only (ok i)) o.op)=some (p,id,cs)) (hb:σ.freeB (base+i)=true) (k:X5 P T ops base ok rest K (σ.setb id cs)):X5 P T ops base ok ((i,o) :: rest) K σ:=by
 unfold Xy5 at hE
 split at hE
 ·rename_i v id' cs' h
  split at hE
  ·rename_i p' l hp hl
   cases hE
   refine X5.step hg h hb ?_
   rw [hd,Zg hl]
   exact k
  ·cases hE
 ·cases hE
theorem X5.pass {d:Nat} (hg:Xk ops σ o=some false) (hd:o.dst=some d) (k:X5 P T ops base ok rest K (σ.put d (.tup []))):X5 P T ops base ok ((i,o) :: rest) K σ:=by
 refine ⟨_, .inl ⟨hg,rfl⟩,?_⟩
 rw [hd]
 exact k
theorem X5.call {d:Nat} {f:FuncId} {args:List PV} {r:PV} (hg:Xk ops σ o=some true) (hd:o.dst=some d) (hc:X8k σ o.op=some (f,args)) (hp:Xs P f args (· = r)) (k:X5 P T ops base ok rest K (σ.put d r)):X5 P T ops base ok ((i,o) :: rest) K σ:=by
 refine ⟨_, .inr ⟨hg, .inr (.inl ⟨f,args,r,d,hd,hc,hp,rfl⟩)⟩,?_⟩
 rw [hd]
 exact k
theorem X5.callH {f:FuncId} {args:List PV} {given res:List (Nat×List PV)} {gm rm:List (Nat×PMap)} {r:PV} (hg:Xk ops σ o=some true) (hc:X8k σ o.op=some (f,args)) (hp:Xe P f args given gm r res rm) (hA:AllB σ (ok i) given) (hB:AllM σ (ok i) gm)
  (hn:Xh2 σ (ok i) (given.map (·.1)) (gm.map (·.1)) (res.map (·.1)) (rm.map (·.1))=true) (hh:X0w o.op=true∨∀j id,ok j id=true) (k:X5 P T ops base ok rest K (σ.app o.dst ⟨r,res,none,rm⟩)):X5 P T ops base ok ((i,o) :: rest) K σ:=
 ⟨_, .inr ⟨hg, .inr (.inr (.inl ⟨f,args,given,gm,r,res,rm,hc,hp,hA,hB,hn,rfl,hh⟩))⟩,k⟩
theorem X5.callR {f:FuncId} {args:List PV} {given:List (Nat×List PV)} {gm:List (Nat×PMap)} {r:PV} (hg:Xk ops σ o=some true) (hc:X8k σ o.op=some (f,args)) (hp:Xe P f args given gm r given gm) (hA:AllB σ (ok i) given) (hB:AllM σ (ok i) gm)
  (hn:Xd3 (given.map (·.1) ++ gm.map (·.1))=true) (hh:Xdn o.op=true∨∀j id,ok j id=true) (k:X5 P T ops base ok rest K (σ.app o.dst ⟨r,[],none,[]⟩)):X5 P T ops base ok ((i,o) :: rest) K σ:=
 ⟨_, .inr ⟨hg, .inr (.inr (.inr (.inr (.inl ⟨f,args,given,gm,r,hc,hp,hA,hB,hn,rfl,hh⟩))))⟩,k⟩
theorem X5.callOM {c:Call} {f p s n k:Nat} {cs:List PV} {Et:TypeId} {args:List PV} {given res:List (Nat×List PV)} {gm rm:List (Nat×PMap)} {r:PV} (hg:Xk ops σ o=some true) (hop:o.op = .call c) (hcal:c.callee = .value (.func f)) (htp:Xu3 f Xsp=some p) (hps:c.args.toList[p]? = some (.tmp s)) (hf:f < 1000000) (hs:σ.t s = .sl n k cs (some Et)) (hargs:(c.args.toList.map (pev σ)).set p (.sl n k cs (some Et))=args) (hp:X27 P f args given gm r res rm) (hA:AllB σ (ok i) given) (hB:AllM σ (ok i) gm)
  (hn:Xh2 σ (ok i) (given.map (·.1)) (gm.map (·.1)) (res.map (·.1)) (rm.map (·.1))=true) (hh:X0w o.op=true) (kn:X5 P T ops base ok rest K (σ.app o.dst ⟨r,res,some s,rm⟩)):X5 P T ops base ok ((i,o) :: rest) K σ:=by
 subst hargs
 refine ⟨_, .inr ⟨hg, .inr (.inr (.inr (.inr (.inr ⟨c, .func f,f,p,s,n,k,cs,Et,given,gm,r,res,rm,hop,hcal,by rw [pev,show Nat.blt f 1000000=true by rw [Nat.blt_eq];exact hf];rfl,hf,hs,hps,hp,hA,hB,hn,rfl, .inl ⟨hh,?_⟩⟩))))⟩,kn⟩
 obtain ⟨callee,cargs,ct⟩:=c
 simp only at hcal hps
 subst hcal
 simp [Kr,hop,Xbh,htp,hps]
theorem X5.sem {E:Eff} (hg:Xk ops σ o=some true) (hok:∀j id,ok j id=true) (hS:∀Φ0 W M a w,(∀d,o.dst=some d→d < M)→Rel Φ0 W M σ a w→Does P Φ0 W M a w o (σ.app o.dst E)) (k:X5 P T ops base ok rest K (σ.app o.dst E)):X5 P T ops base ok ((i,o) :: rest) K σ:=
 ⟨_, .inr ⟨hg, .inr (.inr (.inr (.inl ⟨hok,fun _ _ _ _ _ hM hr _ _ hn=>Y1m (hS _ _ _ _ _ hM hr) hn⟩)))⟩,k⟩
theorem X5.done (k:K σ):X5 P T ops base ok [] K σ:=k
theorem Xwv {y:Code} (h:PW P M y Q σ):Xp9 P M y Q .normal σ:=h
theorem X9c {y:Code} {j:Nat} (h:Q (.exit j) σ):Xp9 P M y Q (.exit j) σ:=h
theorem Xc3 {y:Code} (h:Q .ret σ):Xp9 P M y Q .ret σ:=h
theorem Xt4 {id:Nat} (h:Q .normal σ):X5q id Q .normal σ:=h
theorem X2o {id:Nat} (h:Q .normal σ):X5q id Q (.exit id) σ:=by simpa [X5q] using h
theorem X1o {id j:Nat} (hj:j≠id) (h:Q (.exit j) σ):X5q id Q (.exit j) σ:=by simpa [X5q,hj] using h
theorem X9p {id:Nat} (h:Q .ret σ):X5q id Q .ret σ:=h
theorem Y4 {α:Type} {st:α→PS} {I:α→Prop} {m:α→Nat} {x:α} (y:α) (hi:I y) (hm:m y < m x) (hs:Sub M σ (st y)):Xy0 M st I m x Q .normal σ:=⟨y,hi,hm,hs⟩
theorem X9m {α:Type} {st:α→PS} {I:α→Prop} {m:α→Nat} {x:α} {j:Nat} (h:Q (.exit j) σ):Xy0 M st I m x Q (.exit j) σ:=h
theorem Xde {α:Type} {st:α→PS} {I:α→Prop} {m:α→Nat} {x:α} (h:Q .ret σ):Xy0 M st I m x Q .ret σ:=h
def fres:Option PV→Option PV
 |some p=>fval p
 |none=>none
theorem retP {rs:List ResultVar} {post:PV→Prop} {r:PV} (h1:fres (V7 T σ rs)=some r) (h2:Low r) (h3:post r):RetP T rs post .ret σ:=by
 cases h:V7 T σ rs with
 |none=>rw [h] at h1;cases h1
 |some p=>rw [h] at h1;have:=Zk h1;subst this;exact ⟨p,h,h2,h3⟩
def bot:PS:={ t:=fun _=>.undef,b:=fun _=>none,m:=fun _=>none }
def RenQ (κ:Nat→Nat) (S:Nat→Prop) (q p:PV):Prop:=Ren κ S q p∨Ren κ S q p.bare∨(∃k E,q = .sl 0 k [] (some E)∧p = .nilsl)
theorem Ren.ownR {κ:Nat→Nat} {S:Nat→Prop} {q p:PV} (h:Ren κ S q p.bare):q.ownB=false:=by
 cases hq:q.ownB with
 |false=>rfl
 |true=>
  have:=h.own (.inl hq)
  rw [this,PV.bare_own] at hq;cases hq
theorem RenQ.rep {κ:Nat→Nat} {S:Nat→Prop} {q p:PV} (h:RenQ κ S q p) {Φ:Imm} {μ μ' : Nat→Option Nat} (hμ:∀i,S i→∀g,μ (κ i)=some g→μ' i=some g) {v:Value} (hr:Rep Φ μ p v):Rep Φ μ' q v:=by
 rcases h with h|h|⟨k,E,rfl,rfl⟩
 ·exact h.bwd hμ hr
 ·exact h.bwd hμ hr.bare
 ·rw [hr.nilsl_inv];exact .sl0 _ _ _ _ (by unfold maxLen;omega)
theorem RenQ.own {κ:Nat→Nat} {S:Nat→Prop} {q p:PV} (h:RenQ κ S q p) {n k:Nat} {cs:List PV} {E:TypeId} (e:q = .sl n k cs (some E)):p=q∨(p = .nilsl∧n=0):=by
 rcases h with h|h|⟨k',E',h1,h2⟩
 ·exact .inl (h.own (.inl (by rw [e];rfl))).symm
 ·have:=h.ownR;rw [e] at this;cases this
 ·rw [h1] at e;cases e;exact .inr ⟨h2,rfl⟩
def X5m (κ:Nat→Nat) (S:Nat→Prop) (qs ps:List PV):Prop:=qs.length=ps.length∧∀(j:Nat) q p,qs[j]? = some q→ps[j]? = some p→RenQ κ S q p
theorem X5m.nil {κ:Nat→Nat} {S:Nat→Prop} : X5m κ S [] []:=⟨rfl,fun j p q h=>by simp at h⟩
theorem X5m.cons {κ:Nat→Nat} {S:Nat→Prop} {q p:PV} {qs ps:List PV} (h:RenQ κ S q p) (hs:X5m κ S qs ps):X5m κ S (q :: qs) (p :: ps):=by
 refine ⟨by simp [hs.1],fun j p' q' h1 h2=>?_⟩
 cases j with
 |zero=>simp at h1 h2;subst h1 h2;exact h
 |succ j=>simp at h1 h2;exact hs.2 j p' q' h1 h2
theorem X5m.low {κ:Nat→Nat} {S:Nat→Prop} {ps:List PV} (h:∀p∈ps,Low p):X5m κ S ps ps:=⟨rfl,fun j p q h1 h2=>by rw [h1] at h2;cases h2;exact .inl (.low p (h p (Xc h1)))⟩
theorem V2.bwdQ {κ:Nat→Nat} {S:Nat→Prop} {B:Nat→Prop} {Φ:Imm} {μ μ' : Nat→Option Nat} {ω ω' : Nat→Option Who} {w:World} {i:Nat} {qs ps:List PV} (h:V2 B Φ μ ω w (κ i) ps) (hs:S i) (hr:X5m κ S qs ps) (hμ:∀i,S i→∀g,μ (κ i)=some g→μ' i=some g) (hω:∀q,OfId i q→∀g,ω g=some (renW κ q)→ω' g=some q):V2 B Φ μ' ω' w i qs:=by
 obtain ⟨g,cur,T,h1,h2,h3,h4,h5,h6,h7⟩:=h
 refine ⟨g,cur,T,hμ i hs g h1,h2,h3,hω _ (.inl rfl) g h4,h5,(by have:=hr.1;omega),fun j q hq=>?_⟩
 obtain ⟨p,hp⟩:=Yh hr.1.symm hq
 obtain ⟨u,r1,r2,r3,r4⟩:=h7 j p hp
 have hqp:=hr.2 j q p hq hp
 refine ⟨u,r1,r2,hqp.rep hμ r3,fun n k cs' E e=>?_⟩
 rcases hqp.own e with hpe|⟨hpe,hn⟩
 ·rcases r4 n k cs' E (by rw [hpe,e]) with q|⟨g',cap,cur',q1,q2,q3,q4,q5,q6,q7,q8⟩|q
  ·exact .inl q
  ·exact .inr (.inl ⟨g',cap,cur',q1,q2,q3,q4,q5,q6,hω (.cell i j) (.inr ⟨j,rfl⟩) g' q7,q8⟩)
  ·exact .inr (.inr q)
 ·rw [hpe] at r3
  exact .inl ⟨r3.nilsl_inv,hn⟩
structure SubR (κ:Nat→Nat) (S:Nat→Prop) (σ σ' : PS):Prop where
 b:∀i qs,σ'.b i=some qs→S i∧∃ps,σ.b (κ i)=some ps∧X5m κ S qs ps
 m:∀i X,σ'.m i=some X→S i∧∃Y,σ.m (κ i)=some Y∧RenM κ S X Y
 t:∀t,σ'.t t = .undef∨RenQ κ S (σ'.t t) (σ.t t)
open Classical in
noncomputable def unren (κ:Nat→Nat) (S:Nat→Prop):Option Who→Option Who
 |some (.tmp t)=>some (.tmp t)
 |x=>if hh:∃q,(∃i,S i∧OfId i q)∧x=some (renW κ q) then some hh.choose else none
open Classical in
theorem SubR.rel {κ:Nat→Nat} {S:Nat→Prop} {σ σ' : PS} (h:SubR κ S σ σ') (hS:∀i,S i→σ'.b i≠none∨σ'.m i≠none) (hinj:∀i j,S i→S j→κ i=κ j→i=j) {Φ0:Ent} (hid:∀i,S i→∀g,Φ0.mu i=some g→κ i=i) {W:World} {Φ:Imm} {μ:Nat→Option Nat} {ω:Nat→Option Who} {a:Act} {w:World} (hg:RelG Φ0 W M Φ μ ω σ a w) :
  RelG Φ0 W M Φ (fun i=>if S i then μ (κ i) else none) (fun g=>unren κ S (ω g)) σ' a w:=by
 let μ1:Nat→Option Nat:=fun i=>if S i then μ (κ i) else none
 let ω1:Nat→Option Who:=fun g=>unren κ S (ω g)
 have winj:∀q q',(∃i,S i∧OfId i q)→(∃i,S i∧OfId i q')→renW κ q=renW κ q'→q=q':=by
  rintro q q' ⟨i,hi,hq⟩ ⟨j,hj,hq'⟩ e
  rcases hq with rfl|⟨x,rfl⟩<;>rcases hq' with rfl|⟨y,rfl⟩
  ·simp only [renW,Who.box.injEq] at e;rw [hinj i j hi hj e]
  ·simp [renW] at e
  ·simp [renW] at e
  ·simp only [renW,Who.cell.injEq] at e;rw [hinj i j hi hj e.1,e.2]
 have hμ:∀i,S i→∀g,μ (κ i)=some g→μ1 i=some g:=fun i hi g e=>by show (if _ then _ else _)=_;rw [if_pos hi];exact e
 have hω:∀i,S i→∀q,OfId i q→∀g,ω g=some (renW κ q)→ω1 g=some q:=by
  intro i hi q hq g e
  have hh:∃q',(∃i,S i∧OfId i q')∧some (renW κ q)=some (renW κ q'):=⟨q,⟨i,hi,hq⟩,rfl⟩
  have e1:unren κ S (some (renW κ q))=some hh.choose:=by
   rcases hq with rfl|⟨j,rfl⟩
   ·show (if hh:_ then _ else _)=_
    rw [dif_pos hh]
   ·show (if hh:_ then _ else _)=_
    rw [dif_pos hh]
  show unren κ S (ω g)=_
  rw [e,e1]
  have h2:=hh.choose_spec
  have h3:renW κ q=renW κ hh.choose:=Option.some.inj h2.2
  rw [winj _ _ h2.1 ⟨i,hi,hq⟩ h3.symm]
 have hωt:∀t g,ω g=some (.tmp t)→ω1 g=some (.tmp t):=by
  intro t g e
  show unren κ S (ω g)=_
  rw [e];rfl
 have hω' : ∀g q,ω1 g=some q→∃p,ω g=some p:=by
  intro g q e
  have e1:unren κ S (ω g)=some q:=e
  cases hw:ω g with
  |some p=>exact ⟨p,rfl⟩
  |none=>
   rw [hw] at e1
   unfold unren at e1
   split at e1
   ·rename_i h2;cases h2
   ·split at e1
    ·rename_i hh;obtain ⟨_,-,h2⟩:=hh;cases h2
    ·cases e1
 refine ⟨hg.below,hg.defers,hg.size,hg.imm,hg.old,fun t=>?_,fun t n k cs E e=>?_,fun i qs e=>?_,fun i eb em=>?_,fun g p e=>?_,hg.gmu,fun i g e hi=>?_,hg.ext,fun i X e=>?_,fun g p e=>?_⟩
 ·rcases h.t t with e|e
  ·rw [e];exact .undef _
  ·exact e.rep hμ (hg.tmps t)
 ·rcases h.t t with e' | e'
  ·rw [e'] at e;cases e
  ·rcases e'.own e with hpe|⟨hpe,hn⟩
   ·exact (hg.own t n k cs E (by rw [hpe,e])).step (fun g e=>⟨rfl,fun _=>rfl,hωt t g e⟩)
   ·have:=hg.tmps t
    rw [hpe] at this
    exact .inl ⟨this.nilsl_inv,hn⟩
 ·obtain ⟨hi,ps,h1,h2⟩:=h.b i qs e
  exact (hg.box _ ps h1).bwdQ hi h2 hμ (hω i hi)
 ·show (if _ then _ else _)=_
  rw [if_neg]
  intro hi
  rcases hS i hi with h1|h1
  ·exact h1 eb
  ·exact h1 em
 ·obtain ⟨q,hq⟩:=hω' g p e;exact hg.lt g q hq
 ·have hSi:S i:=by
   rcases hi with hi|hi
   ·cases hb:σ'.b i with
    |none=>exact absurd hb hi
    |some qs=>exact (h.b i qs hb).1
   ·cases hb:σ'.m i with
    |none=>exact absurd hb hi
    |some qs=>exact (h.m i qs hb).1
  have hk:=hid i hSi g e
  refine hμ i hSi g ?_
  rw [hk]
  refine hg.kmu i g e ?_
  rcases hi with hi|hi
  ·left
   cases hb:σ'.b i with
   |none=>exact absurd hb hi
   |some qs=>obtain ⟨-,ps,h1,-⟩:=h.b i qs hb;rw [hk] at h1;rw [h1];simp
  ·right
   cases hb:σ'.m i with
   |none=>exact absurd hb hi
   |some qs=>obtain ⟨-,ps,h1,-⟩:=h.m i qs hb;rw [hk] at h1;rw [h1];simp
 ·obtain ⟨hi,Y,h1,h2⟩:=h.m i X e
  exact (hg.map _ Y h1).bwd hi h2 hμ (fun q hq g e=>⟨hω i hi q hq g e,fun hb=>hb⟩)
 ·obtain ⟨q,hq⟩:=hω' g p e;exact hg.mine g q hq
open Classical in
theorem SubR.sub {κ:Nat→Nat} {S:Nat→Prop} {σ σ' : PS} (h:SubR κ S σ σ') (hS:∀i,S i→σ'.b i≠none∨σ'.m i≠none) (hinj:∀i j,S i→S j→κ i=κ j→i=j) (hid:∀i,S i→1000000≤i→κ i=i):Sub M σ σ':=by
 rintro Φ0 W a w ⟨Φ,μ,ω,hg⟩
 exact ⟨Φ,_,_,h.rel hS hinj (fun i hi g e=>hid i hi (hg.gmu i g e)) hg⟩
def Kn (σ:PS) (i:Nat):Prop:=σ.freeB i=false
theorem Kn.spec {σ:PS} {i:Nat} (h:Kn σ i):σ.b i≠none∨σ.m i≠none:=by
 by_cases hb:σ.b i=none
 ·right
  intro hm
  have:=PS.freeB_iff.2 ⟨hb,hm⟩
  rw [h] at this;cases this
 ·exact .inl hb
theorem Kn.ofb {σ:PS} {i:Nat} {bs:List PV} (h:σ.b i=some bs):Kn σ i:=by simp [Kn,PS.freeB,h]
theorem Kn.ofm {σ:PS} {i:Nat} {bs:PMap} (h:σ.m i=some bs):Kn σ i:=by
 cases hb:σ.b i<;>simp [Kn,PS.freeB,hb,h]
end
section
open Go.RowKit
variable {P:Program} {M:Nat} {Q:Exit→PS→Prop} {σ:PS} {T:Tab} {ops:Array Oper} {i:Nat} {o:Oper} {rest:List (Nat×Oper)} {K:PS→Prop}
variable {base:Nat} {ok:Nat→Nat→Bool}
variable {σF:PS} {κ:Nat→Nat}
theorem SubR.bot:SubR κ (Kn σF) σ bot:=⟨fun i qs e=>(by cases e),fun i X e=>(by cases e),fun t=>.inl rfl⟩
theorem SubR.setb {σ' : PS} {i:Nat} {qs ps:List PV} (h:SubR κ (Kn σF) σ σ') (hi:σF.freeB i=false) (e:σ.b (κ i)=some ps) (hr:X5m κ (Kn σF) qs ps):SubR κ (Kn σF) σ (σ'.setb i qs):=by
 refine ⟨fun j rs hj=>?_,h.m,h.t⟩
 by_cases hji:j=i
 ·subst hji
  simp only [PS.setb,X8,if_true] at hj
  cases hj
  exact ⟨hi,ps,e,hr⟩
 ·simp only [PS.setb,X8,if_neg hji] at hj;exact h.b j rs hj
theorem SubR.setm {σ' : PS} {i:Nat} {X Y:PMap} (h:SubR κ (Kn σF) σ σ') (hi:σF.freeB i=false) (e:σ.m (κ i)=some Y) (hr:RenM κ (Kn σF) X Y):SubR κ (Kn σF) σ (σ'.setm i X):=by
 refine ⟨h.b,fun j Z hj=>?_,h.t⟩
 by_cases hji:j=i
 ·subst hji
  simp only [PS.setm,X8,if_true] at hj
  cases hj
  exact ⟨hi,Y,e,hr⟩
 ·simp only [PS.setm,X8,if_neg hji] at hj;exact h.m j Z hj
theorem SubR.put {σ' : PS} {d:Nat} {q:PV} (h:SubR κ (Kn σF) σ σ') (hr:RenQ κ (Kn σF) q (σ.t d)):SubR κ (Kn σF) σ (σ'.put d q):=by
 refine ⟨h.b,h.m,fun t=>?_⟩
 by_cases ht:t=d
 ·subst ht
  simp only [PS.put,X8,if_true];exact .inr hr
 ·simp only [PS.put,X8,if_neg ht];exact h.t t
theorem Sub.same {σ' : PS} (h:SubR (fun i=>i) (Kn σ') σ σ'):Sub M σ σ':=h.sub (fun i hi=>hi.spec) (fun i j _ _ e=>e) (fun i _ _=>rfl)
theorem Y6e:∀i,Kn bot i→i∈([]:List Nat):=fun i h=>(by cases h)
theorem Y6s {σ' : PS} {L:List Nat} {d:Nat} {q:PV} (h:∀i,Kn σ' i→i∈L):∀i,Kn (σ'.put d q) i→i∈L:=h
theorem Y26 {σ' : PS} {L:List Nat} {j:Nat} {bs:List PV} (h:∀i,Kn σ' i→i∈L):∀i,Kn (σ'.setb j bs) i→i∈j :: L:=by
 intro i hi
 by_cases hij:i=j
 ·subst hij;simp
 ·refine List.mem_cons_of_mem _ (h i ?_)
  simpa only [Kn,PS.freeB,PS.setb,X8,if_neg hij] using hi
theorem Y38 {σ' : PS} {L:List Nat} {j:Nat} {X:PMap} (h:∀i,Kn σ' i→i∈L):∀i,Kn (σ'.setm j X) i→i∈j :: L:=by
 intro i hi
 by_cases hij:i=j
 ·subst hij;simp
 ·refine List.mem_cons_of_mem _ (h i ?_)
  simpa only [Kn,PS.freeB,PS.setm,X8,if_neg hij] using hi
end
section
open Go.RowKit
variable {P:Program} {M:Nat} {Q:Exit→PS→Prop} {σ:PS} {T:Tab} {ops:Array Oper} {i:Nat} {o:Oper} {rest:List (Nat×Oper)} {K:PS→Prop}
variable {base:Nat} {ok:Nat→Nat→Bool}
def pint (z:Int):PV:=.val (.int .i64 z)
def pstr (s:ByteArray):PV:=.val (.string s)
def Y1 (b:Bool):PV:=.val (.bool b)
def Kd (zs:List Int):PV:=.sl zs.length 1 (zs.map pint) none
def Xr (l:List ByteArray):PV:=.sl l.length 1 (l.map pstr) none
end
section
open Go.RowKit
def X6u (ops:Array Oper) (o:Oper):List Nat:=match o.guard with
 |some (j,_)=>((ops.toList[j]?).bind (·.dst)).toList
 |none => []
def X5f (a:Nat):List Oper→Nat→Option Nat
 | [],_=>none
 |o :: r,k=>match o.op,o.dst with
  | .alloc _,some d=>if Nat.beq d a then some k else X5f a r (k+1)
  | .box _ _,some d=>if Nat.beq d a then some k else X5f a r (k+1)
  |_,_=>X5f a r (k+1)
def Xdu (ops:List Oper) (o:Oper):Option Nat:=match o.op with
 | .store _ (.tmp a) _=>X5f a ops 0
 | .load _ (.tmp a)=>X5f a ops 0
 |_=>none
def seeB (ops:List Oper) (cl:List (List Nat)) (i:Nat) (o:Oper) (k:Nat):Bool:=(cl.getD i []).contains k && (match Xdu ops o with|some k' => Nat.beq k k' | none=>true)
def sepB (ops:List Oper) (cl:List (List Nat)) (iy ix:Nat) (y x:Oper):Bool:=
 (match Xdu ops y with|some k => !seeB ops cl ix x k|none=>false) || (match Xdu ops x with|some k => !seeB ops cl iy y k|none=>false)
def indB (ops:Array Oper) (cl:List (List Nat)) (iy ix:Nat) (y x:Oper):Bool:=
 (match y.dst,x.dst with|some a,some b=>a != b|_,_=>true) &&
 (match y.dst with|some a => !(X1j x.op.operands.toList).contains a && !(X6u ops x).contains a|none=>true) &&
 (match x.dst with|some b => !(X1j y.op.operands.toList).contains b && !(X6u ops y).contains b|none=>true) &&
 (Kr (Yr ops y.dst) y).all (fun s => !(Kr (Yr ops x.dst) x).contains s) &&
 (!(mapW (Yr ops y.dst) y && mapU x) && !(mapW (Yr ops x.dst) x && mapU y)) &&
 ((!(X0t y && X0i x) && !(X0t x && X0i y) && !(Kb (Yr ops y.dst) y && Kb (Yr ops x.dst) x)) || sepB ops.toList cl iy ix y x)
def addN (l:List Nat) (k:Nat):List Nat:=cond (l.any fun j=>Nat.beq j k) l (k :: l)
def cloF (acc:List (List Nat)) (o:Oper):List Nat:=o.after.toList.flatMap fun e=>if Region.binds .any e then e.on :: (acc.getD e.on []) else []
def Xqa (acc:List (List Nat)) (o:Oper):List Nat:=(cloF acc o).foldl addN []
theorem Xxk {l:List Nat} {k j:Nat} : j∈addN l k↔j=k∨j∈l:=by
 unfold addN
 cases h:l.any fun j=>Nat.beq j k with
 |false=>simp
 |true=>
  obtain ⟨x,hx,hk⟩:=List.any_eq_true.1 h
  have e:=Nat.eq_of_beq_eq_true hk
  subst e
  simp only [cond_true]
  exact ⟨.inr,fun h=>h.elim (fun e=>e ▸ hx) id⟩
theorem X6l:∀(l a:List Nat) (k:Nat),k∈l.foldl addN a↔k∈a∨k∈l
 | [],a,k=>by simp
 |x :: l,a,k=>by
  rw [List.foldl_cons,X6l l,Xxk,List.mem_cons]
  constructor
  ·rintro ((h|h)|h)
   ·exact .inr (.inl h)
   ·exact .inl h
   ·exact .inr (.inr h)
  ·rintro (h|h|h)
   ·exact .inl (.inr h)
   ·exact .inl (.inl h)
   ·exact .inr h
def Xne {β:Type} : List Nat→(List Nat→β)→β
 | [],k=>k []
 |x :: l,k=>Xne l fun t=>k (x :: t)
theorem Xhv {β:Type} : ∀(l:List Nat) (k:List Nat→β),Xne l k=k l
 | [],k=>rfl
 |x :: l,k=>by rw [Xne,Xhv l]
def Xjo:List Oper→List (List Nat)→List (List Nat)
 | [],acc=>acc
 |o :: r,acc=>Xne (Xqa acc o) fun c=>Xjo r (acc ++ [c])
theorem X3v (o:Oper) (r:List Oper) (acc:List (List Nat)):Xjo (o :: r) acc=Xjo r (acc ++ [Xqa acc o]):=by rw [Xjo,Xhv]
def clos (ops:List Oper):List (List Nat):=Xjo ops []
def okD (cl:List (List Nat)) (base len:Nat) (i id:Nat):Bool:=decide (id < base) || decide (base+len≤id) || (cl.getD i []).contains (id - base)
def okR (ops:List Oper) (base i id:Nat):Bool:=okD (clos ops) base ops.length i id && (match (ops[i]?).bind (Xdu ops) with|some k=>Nat.beq id (base+k)|none=>true)
theorem X9h {a:Nat} : ∀(l:List Oper) (k j:Nat),X5f a l k=some j→k≤j∧j < k+l.length
 | [],k,j,h=>by cases h
 |o :: r,k,j,h=>by
  have step:X5f a r (k+1)=some j→k≤j∧j < k+(o :: r).length:=fun h=>by
   have:=X9h r (k+1) j h
   simp only [C_];omega
  have here:some k=some j→k≤j∧j < k+(o :: r).length:=fun h=>by cases h;simp
  unfold X5f at h
  split at h
  ·split at h
   ·exact here h
   ·exact step h
  ·split at h
   ·exact here h
   ·exact step h
  ·exact step h
theorem Xnu {ops:List Oper} {o:Oper} {k:Nat} (h:Xdu ops o=some k):k < ops.length:=by
 unfold Xdu at h
 split at h
 ·have:=X9h _ _ _ h;omega
 ·have:=X9h _ _ _ h;omega
 ·cases h
theorem Xmm {ops:List Oper} {base iy ix:Nat} {y x:Oper} (hy:ops[iy]? = some y) (hx:ops[ix]? = some x) (hs:sepB ops (clos ops) iy ix y x=true) (j:Nat) (h1:okR ops base iy j=true) (h2:okR ops base ix j=true):False:=by
 have key:∀(i:Nat) o k,ops[i]? = some o→okR ops base i (base+k)=true→k < ops.length→seeB ops (clos ops) i o k=true:=by
  intro i o k ho h hk
  simp only [okR,ho,Option.bind_some,Bool.and_eq_true] at h
  obtain ⟨ha,hb⟩:=h
  simp only [seeB,Bool.and_eq_true]
  refine ⟨?_,?_⟩
  ·simp only [okD,Bool.or_eq_true,decide_eq_true_eq] at ha
   rcases ha with (ha|ha)|ha
   ·omega
   ·omega
   ·rwa [Nat.add_sub_cancel_left] at ha
  ·cases hr:Xdu ops o with
   |none=>rfl
   |some k' =>
    rw [hr] at hb
    simp only at hb ⊢
    have:=Nat.eq_of_beq_eq_true hb
    rw [show k=k' by omega];exact Nat.beq_refl k'
 have res:∀(i:Nat) o k,ops[i]? = some o→okR ops base i j=true→Xdu ops o=some k→j=base+k:=by
  intro i o k ho h hr
  simp only [okR,ho,Option.bind_some,hr,Bool.and_eq_true] at h
  exact Nat.eq_of_beq_eq_true h.2
 simp only [sepB,Bool.or_eq_true] at hs
 rcases hs with hs|hs
 ·cases hr:Xdu ops y with
  |none=>rw [hr] at hs;cases hs
  |some k=>
   rw [hr] at hs
   have e:=res iy y k hy h1 hr
   subst e
   have:=key ix x k hx h2 (Xnu hr)
   simp [this] at hs
 ·cases hr:Xdu ops x with
  |none=>rw [hr] at hs;cases hs
  |some k=>
   rw [hr] at hs
   have e:=res ix x k hx h2 hr
   subst e
   have:=key iy y k hy h1 (Xnu hr)
   simp [this] at hs
def Xk6 (ops:List Oper):Bool:=
 let cl:=clos ops
 (Xa 0 ops).all fun x=>x.2.after.toList.all (fun e => !Region.binds .any e || decide (e.on < x.1)) &&
  (Xa 0 ops).all fun y => !decide (y.1 < x.1) || (cl.getD x.1 []).contains y.1 || indB ops.toArray cl y.1 x.1 y.2 x.2
def depO (o:Oper) (j:Nat):Bool:=o.after.any fun e=>Region.binds .any e && e.on == j
theorem Yk (l:Array Bool) (i j:Nat) (h:i < l.size):(l.setIfInBounds i true).getD j false=(decide (j=i) || l.getD j false):=by
 simp only [Array.getD_eq_getD_getElem?,Array.getElem?_setIfInBounds]
 by_cases e:i=j
 ·subst e;simp [h]
 ·have e' : ¬j=i:=fun x=>e x.symm
  simp [e,e']
theorem Ym {ops:Array Oper} {listed:Array Bool} {i:Nat} (hs:listed.size=ops.size):i∈Region.ready .any ops listed↔∃o,ops[i]? = some o∧listed.getD i false=false∧∀j,depO o j=true→listed.getD j false=true:=by
 unfold Region.ready
 rw [List.mem_filter,List.mem_range]
 constructor
 ·rintro ⟨h1,h2⟩
  obtain ⟨o,ho⟩:∃o,ops[i]? = some o:=⟨ops[i],by simp [h1]⟩
  rw [ho] at h2
  simp only [Option.map_some,Option.getD_some,Bool.and_eq_true] at h2
  refine ⟨o,ho,?_,fun j hj=>?_⟩
  ·have:i < listed.size:=O_
   have h3:=h2.1
   simp only [Array.getD_eq_getD_getElem?,Array.getElem?_eq_getElem this,Option.getD_some] at h3 ⊢
   simpa using h3
  ·unfold depO at hj
   rw [Array.any_eq_true] at hj
   obtain ⟨k,hk,hk2⟩:=hj
   simp only [Bool.and_eq_true,beq_iff_eq] at hk2
   have:=(Array.all_eq_true.1 h2.2) k hk
   rw [hk2.1,hk2.2] at this
   simpa using this
 ·rintro ⟨o,ho,h1,h2⟩
  have hi:i < ops.size:=(Array.getElem?_eq_some_iff.1 ho).1
  refine ⟨hi,?_⟩
  rw [ho]
  simp only [Option.map_some,Option.getD_some,Bool.and_eq_true]
  refine ⟨?_,?_⟩
  ·have:i < listed.size:=O_
   simp only [Array.getD_eq_getD_getElem?,Array.getElem?_eq_getElem this,Option.getD_some] at h1 ⊢
   simp [h1]
  ·rw [Array.all_eq_true]
   intro k hk
   cases hb:Region.binds .any o.after[k]
   ·simp
   ·have:depO o o.after[k].on=true:=by
     unfold depO
     rw [Array.any_eq_true]
     exact ⟨k,hk,by simp [hb]⟩
    simpa using h2 _ this
end
section
open Go.RowKit
variable {P:Program} {ops:Array Oper} {Q:Exit→Act→World→Prop} {a0:Act} {w1:World} {R:Nat→Value→World→Prop} {le:World→World→Prop}
def Ke (l:Array Bool):Nat:=(List.range l.size).countP fun i => !l.getD i false
theorem V0 (l:Array Bool) (i:Nat) (hi:i < l.size) (h:l.getD i false=false):Ke (l.setIfInBounds i true) < Ke l:=by
 unfold Ke
 rw [Array.size_setIfInBounds]
 have key:∀(r:List Nat),(r.countP fun j => !(l.setIfInBounds i true).getD j false)≤(r.countP fun j => !l.getD j false)∧(i∈r→(r.countP fun j => !(l.setIfInBounds i true).getD j false) < (r.countP fun j => !l.getD j false)):=by
  intro r
  induction r with
  |nil=>simp
  |cons x xs ih=>
   rw [List.countP_cons,List.countP_cons,Yk _ _ _ hi]
   by_cases e:x=i
   ·subst e
    simp only [h,decide_true,Bool.true_or,Bool.not_true,Bool.not_false,if_true,Bool.false_eq_true,if_false]
    exact ⟨O_,fun _=>by omega⟩
   ·simp only [e,decide_false,Bool.false_or]
    refine ⟨O_,fun hm=>?_⟩
    have:=ih.2 (by simpa [Ne.symm e] using hm)
    omega
 exact (key _).2 (List.mem_range.2 hi)
theorem Ky {l:Array Bool} (h:Ke l=0):∀i,i < l.size→l.getD i false=true:=by
 intro i hi
 unfold Ke at h
 rw [List.countP_eq_zero] at h
 simpa using h i (List.mem_range.2 hi)
end
section
open Go.RowKit
theorem Xp1 {n n' k:Nat} {cs cs' : List PV} {o:Option TypeId} (h1:n=n') (h2:cs=cs'):PV.sl n k cs o = .sl n' k cs' o:=by rw [h1,h2]
end
section
open Go.RowKit
variable {P:Program} {M:Nat} {Q:Exit→PS→Prop} {σ:PS} {T:Tab} {ops:Array Oper} {i:Nat} {o:Oper} {rest:List (Nat×Oper)} {K:PS→Prop} {base:Nat} {ok:Nat→Nat→Bool}
theorem Xv (ok:Nat→Bool) (x:Operand):pev (σ.only ok) x=pev σ x:=by cases x<;>rfl
theorem X5.valEq {d:Nat} {p q:PV} (hg:Xk ops σ o=some true) (hd:o.dst=some d) (hE:presE T (Yr ops o.dst) (base+i) (σ.only (ok i)) o.op=some ⟨p,[],none,[]⟩) (hp:p=q) (hb:σ.freeB (base+i)=true) (k:X5 P T ops base ok rest K (σ.put d q)):X5 P T ops base ok ((i,o) :: rest) K σ:=by
 subst hp
 refine X5.step hg hE hb ?_
 rw [hd]
 exact k
theorem X5.bool {d:Nat} {b:Bool} (v:Bool) (hg:Xk ops σ o=some true) (hd:o.dst=some d) (hE:feff (presE T (Yr ops o.dst) (base+i) (σ.only (ok i)) o.op)=some (.val (.bool b))) (hv:b=v) (hb:σ.freeB (base+i)=true) (k:X5 P T ops base ok rest K (σ.put d (.val (.bool v)))):X5 P T ops base ok ((i,o) :: rest) K σ:=by
 subst hv
 exact X5.val hg hd hE hb k
theorem X5.int {d:Nat} {kk:IntKind} {z:Int} (z' : Int) (hg:Xk ops σ o=some true) (hd:o.dst=some d) (hE:feff (presE T (Yr ops o.dst) (base+i) (σ.only (ok i)) o.op)=some (.val (.int kk z))) (hv:z=z') (hb:σ.freeB (base+i)=true) (k:X5 P T ops base ok rest K (σ.put d (.val (.int kk z')))):X5 P T ops base ok ((i,o) :: rest) K σ:=by
 subst hv
 exact X5.val hg hd hE hb k
theorem Zp {z:Int} (h1 : -9223372036854775808≤z) (h2:z≤9223372036854775807):IntKind.i64.wrap z=z:=IntWalk.i64_in z ⟨h1,h2⟩
theorem X5.fits {d:Nat} {z:Int} (hg:Xk ops σ o=some true) (hd:o.dst=some d) (hE:feff (presE T (Yr ops o.dst) (base+i) (σ.only (ok i)) o.op)=some (.val (.int .i64 (IntKind.i64.wrap z)))) (h1 : -9223372036854775808≤z) (h2:z≤9223372036854775807) (hb:σ.freeB (base+i)=true) (k:X5 P T ops base ok rest K (σ.put d (.val (.int .i64 z)))):X5 P T ops base ok ((i,o) :: rest) K σ:=
 X5.int z hg hd hE (Zp h1 h2) hb k
def Y1e:Op→Bool
 | .binOp op _ _ _ _=>match op with
  | .eql | .neq | .lss | .leq | .gtr | .geq=>true
  |_=>false
 |_=>false
def Xv6:Op→Bool
 | .binOp op _ _ _ _=>match op with
  | .add | .sub | .mul=>true
  |_=>false
 |_=>false
theorem X5.boolK {d:Nat} {b:Bool} (v:Bool) (hk:Y1e o.op=true) (hg:Xk ops σ o=some true) (hd:o.dst=some d) (hE:feff (presE T (Yr ops o.dst) (base+i) (σ.only (ok i)) o.op)=some (.val (.bool b))) (hv:b=v) (hb:σ.freeB (base+i)=true) (k:X5 P T ops base ok rest K (σ.put d (.val (.bool v)))):X5 P T ops base ok ((i,o) :: rest) K σ:=X5.bool v hg hd hE hv hb k
theorem X5.fitsK {d:Nat} {z:Int} (hk:Xv6 o.op=true) (hg:Xk ops σ o=some true) (hd:o.dst=some d) (hE:feff (presE T (Yr ops o.dst) (base+i) (σ.only (ok i)) o.op)=some (.val (.int .i64 (IntKind.i64.wrap z)))) (h1 : -9223372036854775808≤z) (h2:z≤9223372036854775807) (hb:σ.freeB (base+i)=true) (k:X5 P T ops base ok rest K (σ.put d (.val (.int .i64 z)))):X5 P T ops base ok ((i,o) :: rest) K σ:=X5.fits hg hd hE h1 h2 hb k
theorem X5.idx {d n k j e by_:Nat} {cs zr:List PV} {own:Option TypeId} {kk:IntKind} {x ix:Operand} {t:TypeId} {ti:TyI} (hg:Xk ops σ o=some true) (hd:o.dst=some d) (hop:o.op = .indexAddr t x ix) (hx:pev σ x = .sl n k cs own) (hi:pev σ ix = .val (.int kk (j:Int))) (ht:T.at t=some ti) (hk:ti.kind = .slice e k by_ zr) (hb:σ.freeB (base+i)=true) (hj:j < n)
  (kn:X5 P T ops base ok rest K (σ.put d (.ep cs (j * k)))):X5 P T ops base ok ((i,o) :: rest) K σ:=by
 refine X5.valEq hg hd (p:=.ep cs (j * k)) ?_ rfl hb kn
 have h1:k=k∧(0:Int)≤(j:Int)∧(j:Int) < (n:Int):=⟨rfl,O_,O_⟩
 simp [hop,presE,V5,pval,Xv,hx,hi,ht,hk,X2x,h1]
theorem X5.idx1 {d n j e by_:Nat} {cs zr:List PV} {own:Option TypeId} {kk:IntKind} {x ix:Operand} {t:TypeId} {ti:TyI} (hg:Xk ops σ o=some true) (hd:o.dst=some d) (hop:o.op = .indexAddr t x ix) (hx:pev σ x = .sl n 1 cs own) (hi:pev σ ix = .val (.int kk (j:Int))) (ht:T.at t=some ti) (hk:ti.kind = .slice e 1 by_ zr) (hb:σ.freeB (base+i)=true) (hj:j < n)
  (kn:X5 P T ops base ok rest K (σ.put d (.ep cs j))):X5 P T ops base ok ((i,o) :: rest) K σ:=
 X5.idx hg hd hop hx hi ht hk hb hj (by rw [Nat.mul_one];exact kn)
theorem X5.ld {d off:Nat} {cs:List PV} {c q:PV} {x:Operand} {t:TypeId} {ti:TyI} (hg:Xk ops σ o=some true) (hd:o.dst=some d) (hop:o.op = .load t x) (hx:pev σ x = .ep cs off) (ht:T.at t=some ti) (ha:ti.agg=false) (hb:σ.freeB (base+i)=true) (hc:cs[off]? = some c) (hq:fval c.bare=some q)
  (kn:X5 P T ops base ok rest K (σ.put d q)):X5 P T ops base ok ((i,o) :: rest) K σ:=by
 refine X5.valEq hg hd (p:=c.bare) ?_ (Zk hq) hb kn
 simp [hop,presE,X0u,V5,pval,Xv,hx,ht,Zj,X6f,ha,hc]
theorem X5.ldA {d off m:Nat} {cs row:List PV} {x:Operand} {t:TypeId} {kd:TD} {zr:List PV} {es:List SK} (hg:Xk ops σ o=some true) (hd:o.dst=some d) (hop:o.op = .load t x) (hx:pev σ x = .ep cs off) (ht:T.at t=some ⟨m,true,kd,zr,es⟩) (hb:σ.freeB (base+i)=true) (hl:off+m≤cs.length) (hr:((cs.drop off).take m).map PV.bare=row)
  (kn:X5 P T ops base ok rest K (σ.put d (.agg row))):X5 P T ops base ok ((i,o) :: rest) K σ:=by
 refine X5.valEq hg hd (p:=.agg (((cs.drop off).take m).map PV.bare)) ?_ (by rw [hr]) hb kn
 simp [hop,presE,X0u,V5,pval,Xv,hx,ht,Zj,X6f,hl]
theorem X5.app {d s n m k e by_:Nat} {cs ds zr:List PV} {own:Option TypeId} {x:Operand} {t:TypeId} {sz:Nat} {ag:Bool} {zz:List PV} {es:List SK} (hg:Xk ops σ o=some true) (hd:o.dst=some d) (hop:o.op = .call { callee:=.builtin .append,args := #[.tmp s,x],argTypes := #[t,t] }) (hs:σ.t s = .sl n k cs (some e)) (hx:pev σ x = .sl m k ds own) (ht:T.at t=some ⟨sz,ag, .slice e k by_ zr,zz,es⟩) (hb:σ.freeB (base+i)=true) (he:Nat.blt e 1000000=true)
  (h1:(n+m) * by_≤140737488355328) (h2:n+m≤140737488355328) (hone:ds.all PV.one=true) (kn:X5 P T ops base ok rest K ((σ.put s (.sl n k cs none)).put d (.sl (n+m) k (cs ++ ds) (some e)))):X5 P T ops base ok ((i,o) :: rest) K σ:=by
 refine X5.step hg (E:=⟨.sl (n+m) k (cs ++ ds) (some e),[],some s,[]⟩) ?_ hb ?_
 ·have how:Kj (σ.only (ok i)) (.tmp s) = .sl n k cs (some e):=hs
  simp [hop,presE,how,Xv,hx,ht,pappend,Xhx,Xr1,h1,h2,X3u,Xhu,(by simpa [Nat.blt_eq] using he:e < 1000000)]
  simpa using hone
 ·rw [hd]
  simp only [PS.app,hs,List.foldl_nil,List.foldl_cons]
  exact kn
theorem X5.app0 {d s m k e by_:Nat} {ds zr:List PV} {own:Option TypeId} {x:Operand} {t:TypeId} {sz:Nat} {ag:Bool} {zz:List PV} {es:List SK} (hg:Xk ops σ o=some true) (hd:o.dst=some d) (hop:o.op = .call { callee:=.builtin .append,args := #[.tmp s,x],argTypes := #[t,t] }) (hs:σ.t s = .nilsl) (hx:pev σ x = .sl m k ds own) (ht:T.at t=some ⟨sz,ag, .slice e k by_ zr,zz,es⟩) (hb:σ.freeB (base+i)=true) (he:Nat.blt e 1000000=true)
  (h1:m * by_≤140737488355328) (h2:m≤140737488355328) (hone:ds.all PV.one=true) (kn:X5 P T ops base ok rest K ((σ.put s .nilsl).put d (.sl m k ds (some e)))):X5 P T ops base ok ((i,o) :: rest) K σ:=by
 refine X5.step hg (E:=⟨.sl (0+m) k ([] ++ ds) (some e),[],some s,[]⟩) ?_ hb ?_
 ·have how:Kj (σ.only (ok i)) (.tmp s) = .nilsl:=hs
  simp [hop,presE,how,Xv,hx,ht,pappend,Xhx,Xr1,h1,h2,X3u,Xhu,(by simpa [Nat.blt_eq] using he:e < 1000000)]
  simpa using hone
 ·rw [hd]
  simp only [PS.app,hs,Nat.zero_add,List.nil_append,List.foldl_nil,List.foldl_cons]
  exact kn
theorem X5.slc {d n k e by_:Nat} (l h:Nat) {cs zr:List PV} {own:Option TypeId} {x:Operand} {lo hi:Option Operand} {t:TypeId} {ti:TyI} (hg:Xk ops σ o=some true) (hd:o.dst=some d) (hop:o.op = .slice t x lo hi none) (hx:pev σ x = .sl n k cs own) (ht:T.at t=some ti) (hk:ti.kind = .slice e k by_ zr) (hb:σ.freeB (base+i)=true)
  (h1:Yf n n (hi.map (pev σ))=some h) (h2:Yf 0 h (lo.map (pev σ))=some l) (kn:X5 P T ops base ok rest K (σ.put d (.sl (h - l) k ((cs.drop (l * k)).take ((h - l) * k)) none))):X5 P T ops base ok ((i,o) :: rest) K σ:=by
 refine X5.valEq hg hd (p:=.sl (h - l) k ((cs.drop (l * k)).take ((h - l) * k)) none) ?_ rfl hb kn
 have e1:pev (σ.only (ok i))=pev σ:=funext (Xv _)
 simp [hop,presE,V5,pval,e1,hx,ht,hk,Xdl,h1,h2]
theorem X5.str {d n k e by_:Nat} {zr:List PV} {own:Option TypeId} {bs:List Int} {x:Operand} {ts td:TypeId} {si di ei:TyI} (hg:Xk ops σ o=some true) (hd:o.dst=some d) (hop:o.op = .convert ts td x) (hx:pev σ x = .sl n 1 (bs.map fun b=>.val (.int .u8 b)) own) (hs:T.at ts=some si) (ht:T.at td=some di) (hk1:si.kind = .slice e k by_ zr) (hk2:di.kind = .str) (he:T.at e=some ei) (hke:ei.kind = .int .u8) (hb:σ.freeB (base+i)=true)
  (kn:X5 P T ops base ok rest K (σ.put d (.val (.string (strI bs))))):X5 P T ops base ok ((i,o) :: rest) K σ:=by
 refine X5.valEq hg hd (p:=.val (.string (strI bs))) ?_ rfl hb kn
 simp [hop,presE,V5,pval,Xv,hx,hs,ht,hk1,hk2,he,hke,Y24,Xu0,X7i]
theorem Xel {dflt m j:Nat} {kk:IntKind} (h:j≤m):Yf dflt m (some (.val (.int kk (j:Int))))=some j:=by
 have:(0:Int)≤(j:Int)∧(j:Int)≤(m:Int):=⟨O_,O_⟩
 simp [Yf,this]
theorem X4d (v:Value):Low (.val v)↔True:=⟨fun _=>trivial,fun _=>.val v⟩
theorem X3p:Low .nilsl↔True:=⟨fun _=>trivial,fun _=>.nilsl⟩
theorem Xf3 {n k:Nat} {cs:List PV} {own:Option TypeId} : Low (.sl n k cs own)↔∀c∈cs,Low c:=⟨fun h=>by cases h;assumption,fun h=>.sl n k cs own h⟩
theorem Xre {cs:List PV} {off:Nat} : Low (.ep cs off)↔∀c∈cs,Low c:=⟨fun h=>by cases h;assumption,fun h=>.ep cs off h⟩
theorem Xc5 {cs:List PV} : Low (.agg cs)↔∀c∈cs,Low c:=⟨fun h=>by cases h;assumption,fun h=>.agg cs h⟩
theorem Km {cs:List PV} : Low (.tup cs)↔∀c∈cs,Low c:=⟨fun h=>by cases h;assumption,fun h=>.tup cs h⟩
theorem Xuu {f:FuncId} {cs:List PV} : Low (.fn f cs)↔∀c∈cs,Low c:=⟨fun h=>by cases h;assumption,fun h=>.fn f cs h⟩
theorem Xo (z:Int):Low (pint z)↔True:=X4d _
theorem Y0 (z:ByteArray):Low (pstr z)↔True:=X4d _
theorem Xy (z:Bool):Low (Y1 z)↔True:=X4d _
theorem Xx (zs:List Int):Low (Kd zs)↔True:=⟨fun _=>trivial,fun _=>.sl _ _ _ _ (fun c hc=>by obtain ⟨z,-,rfl⟩:=List.mem_map.1 hc;exact .val _)⟩
theorem Xb (zs:List ByteArray):Low (Xr zs)↔True:=⟨fun _=>trivial,fun _=>.sl _ _ _ _ (fun c hc=>by obtain ⟨z,-,rfl⟩:=List.mem_map.1 hc;exact .val _)⟩
theorem Xla {α:Type} {f:α→PV} {l:List α} {j:Nat} {x:α} (h:l[j]? = some x):(l.map f)[j]? = some (f x):=by simp [h]
theorem Vr {α:Type} {f:α→List PV} {k:Nat} (hk:∀x,(f x).length=k):∀{l:List α} {j:Nat} {x:α} {m:Nat} {c:PV},l[j]? = some x→(f x)[m]? = some c→(l.flatMap f)[j * k+m]? = some c
 | [],j,x,m,c,h,_=>by simp at h
 |y :: l,0,x,m,c,h,hc=>by
  simp at h;subst h
  have hm:m < (f y).length:=(List.getElem?_eq_some_iff.1 hc).1
  rw [List.flatMap_cons,Nat.zero_mul,Nat.zero_add,List.getElem?_append_left hm];exact hc
 |y :: l,j+1,x,m,c,h,hc=>by
  simp at h
  rw [List.flatMap_cons,List.getElem?_append_right (by rw [hk,Nat.succ_mul];omega),hk,show (j+1) * k+m - k=j * k+m by rw [Nat.succ_mul];omega]
  exact Vr hk h hc
theorem Kk {α:Type} {f:α→List PV} {k:Nat} (hk:∀x,(f x).length=k):∀(l:List α),(l.flatMap f).length=l.length * k
 | []=>by simp
 |y :: l=>by rw [List.flatMap_cons,A_,hk,Kk hk l,C_,Nat.succ_mul];omega
theorem Vq {α:Type} {f:α→List PV} {k:Nat} (hk:∀x,(f x).length=k):∀{l:List α} {j:Nat} {x:α},l[j]? = some x→((l.flatMap f).drop (j * k)).take k=f x
 | [],j,x,h=>by simp at h
 |y :: l,0,x,h=>by
  simp at h;subst h
  rw [List.flatMap_cons,Nat.zero_mul,List.drop_zero,List.take_append_of_le_length (by rw [hk];exact Nat.le_refl _),H_ (by rw [hk];exact Nat.le_refl _)]
 |y :: l,j+1,x,h=>by
  simp at h
  rw [List.flatMap_cons,show (j+1) * k=(f y).length+j * k by rw [hk,Nat.succ_mul];omega,List.drop_append]
  simp only [Nat.add_sub_cancel_left]
  rw [List.drop_eq_nil_of_le O_,List.nil_append]
  exact Vq hk h
end
section
open Go.RowKit
def Xh (z:Int):PV:=.val (.int .u8 z)
def Yp (bs:List Int):PV:=.sl bs.length 1 (bs.map Xh) none
theorem Xz1 {n k:Nat} {l:List Int} {o:Option TypeId} : Low (.sl n k (l.map pint) o):=.sl _ _ _ _ (fun c hc=>by obtain ⟨z,-,rfl⟩:=List.mem_map.1 hc;exact .val _)
theorem Xnj {n k:Nat} {l:List ByteArray} {o:Option TypeId} : Low (.sl n k (l.map pstr) o):=.sl _ _ _ _ (fun c hc=>by obtain ⟨z,-,rfl⟩:=List.mem_map.1 hc;exact .val _)
theorem Xfm {n k:Nat} {l:List Int} {o:Option TypeId} : Low (.sl n k (l.map Xh) o):=.sl _ _ _ _ (fun c hc=>by obtain ⟨z,-,rfl⟩:=List.mem_map.1 hc;exact .val _)
theorem X35 (l:List Int):(l.map pint).all PV.one=true:=by rw [List.all_map,List.all_eq_true];intro x _;rfl
theorem X2w (l:List ByteArray):(l.map pstr).all PV.one=true:=by rw [List.all_map,List.all_eq_true];intro x _;rfl
theorem X0g (l:List Int):(l.map Xh).all PV.one=true:=by rw [List.all_map,List.all_eq_true];intro x _;rfl
theorem Xd2 (z:Int):Low (Xh z)↔True:=X4d _
theorem Xw (zs:List Int):Low (Yp zs)↔True:=⟨fun _=>trivial,fun _=>.sl _ _ _ _ (fun c hc=>by obtain ⟨z,-,rfl⟩:=List.mem_map.1 hc;exact .val _)⟩
theorem PW.condT {P:Program} {M:Nat} {Q:Exit→PS→Prop} {σ:PS} {c:Operand} {x y:Code} (hc:pev σ c = .val (.bool true)) (h:PW P M x Q σ):PW P M (.cond c x y) Q σ:=PW.cond hc (fun _=>h) (fun e=>by cases e)
theorem PW.condF {P:Program} {M:Nat} {Q:Exit→PS→Prop} {σ:PS} {c:Operand} {x y:Code} (hc:pev σ c = .val (.bool false)) (h:PW P M y Q σ):PW P M (.cond c x y) Q σ:=PW.cond hc (fun e=>by cases e) (fun _=>h)
def Y1l (zs:List Int):PV:=.sl zs.length 1 (zs.map Xh) (some 5)
end
section
open Go.RowKit
variable {Φ:Imm} {μ:Nat→Option Nat} {w:World} (himm:∀b o u,Φ b o=some u→w.cell? ⟨b,o,none⟩=some u)
include himm
theorem Xlc {w' : World} {E:TypeId} {v:Value} {α:Type} {f:α→Value} {l:List α} (hplain:∀x,X2v (f x)=true) (ho:Own w.heap.size E w' v (l.map f)) (hb:Below w.heap.size w w') (hE:E < 1000000:=by decide) :
  ∃Φ' : Imm,(∀b o u,Φ' b o=some u→w'.cell? ⟨b,o,none⟩=some u)∧(∀b o,b < w.heap.size→Φ' b o=Φ b o)∧Rep Φ' mu0 (.sl l.length 1 (l.map fun x=>.val (f x)) (some E)) v∧Ki (fun g=>w.heap.size≤g) Φ' (fun _=>some (.tmp 0)) w' (.tmp 0) l.length 1 E v:=by
 have himm' : ∀b o u,Φ b o=some u→w'.cell? ⟨b,o,none⟩=some u:=fun b o u e=>Xz hb (himm b o u e)
 have hfr:∀b o u,Φ b o=some u→b < w.heap.size:=fun b o u e=>World.block_lt_of_cell? _ _ (himm b o u e)
 rcases ho.2 with ⟨rfl,hn⟩|⟨g,cap,cur,rfl,hBg,hgg,hc,hm,hs,ht⟩
 ·have hl:l = []:=List.eq_nil_of_length_eq_zero (by simpa using hn)
  subst hl
  exact ⟨Φ,himm',fun _ _ _=>rfl, .sl0 _ _ _ _ (by unfold maxLen;omega), .inl ⟨rfl,rfl⟩⟩
 ·simp only [List.length_map,Nat.mul_one] at hc ht hs
  refine ⟨fun b o=>if b=g then (l.map f)[o]? else Φ b o,?_,?_,?_,?_⟩
  ·intro b o u e
   by_cases hbg:b=g
   ·subst hbg
    simp only [if_true] at e
    rw [←ht,List.getElem?_take] at e
    split at e
    ·simp only [World.cell?,hgg];simpa using e
    ·cases e
   ·simp only [if_neg hbg] at e;exact himm' b o u e
  ·intro b o hbo;simp only;rw [if_neg O_]
  ·have hlen:(Value.slice (some ⟨g,0,none⟩) (l.map f).length cap) = .slice (some ⟨g,0,none⟩) l.length cap:=S_
   rw [hlen]
   refine .sl _ _ _ _ g 0 cap (fun j=>((l.map f)[j]?).getD undef) S_ hc hm (fun j hj=>?_) (fun j c hcj=>?_)
   ·have hj' : j < l.length:=by simpa using hj
    simp [hj']
   ·rw [M_] at hcj
    obtain ⟨x,hx,rfl⟩:=Option.map_eq_some_iff.1 hcj
    simp only [M_,hx,Option.map_some,Option.getD_some]
    exact .val _ (hplain x)
  ·refine .inr (.inl ⟨g,cap,cur,S_,hBg,hgg,hc,hm,by simpa using hs,rfl,hE,fun j hj=>?_⟩)
   simp only [if_true]
   rw [List.getElem?_eq_none (by simp;omega)]
theorem Xmn {w' : World} {E:TypeId} {v:Value} {α:Type} {f:α→Value} {l:List α} (hplain:∀x,X2v (f x)=true) (ho:Own w.heap.size E w' v (l.map f)) (hb:Below w.heap.size w w') (hE:E < 1000000:=by decide):X4j Φ w (· = .sl l.length 1 (l.map fun x=>.val (f x)) (some E)) (.returned v) w':=by
 obtain ⟨Φ',h1,h2,h3,h4⟩:=Xlc himm hplain ho hb hE
 refine ⟨_,v,Φ',rfl,rfl,h3,h1,h2,hb,fun n k cs E' e=>?_⟩
 cases e
 exact h4
end
section
open Go.RowKit
theorem Xda {P:Program} {f:FuncId} {p:PV} {post:PV→Prop} (hc:X28 P f=true) (h:∀(Φ:Imm) (μ:Nat→Option Nat) (w:World) (v:Value),(∀b o u,Φ b o=some u→w.cell? ⟨b,o,none⟩=some u)→Rep Φ μ p v→Calls P f #[v] w (X4j Φ w post)):Xs P f [p] post:=by
 refine ⟨hc,fun Φ μ w vs himm hgl hr=>?_⟩
 match vs,hr with
 | [v],hr=>exact h Φ μ w v himm (hr.2 0 _ _ rfl rfl)
 | [],hr=>exact absurd hr.1 S_
 |_ :: _ :: _,hr=>exact absurd hr.1 S_
end
section
def andThen (out:List Int) (at_:Int) (s:List Int×Int×Int):List Int×Int×Int:=
 if s.2.2≠0 then ([],0,s.2.2) else (out ++ s.1,at_+s.2.1,0)
theorem Xgt (n:Int) (h1 : -9223372036854775808≤n) (h2:n≤9223372036854775807):1≤(intB n).length∧(intB n).length≤10:=⟨Xfd _,Y82 _ (Xra n h1 h2)⟩
def X0k (s:ByteArray):List Int:=s.data.toList.map fun b=>(b.toNat:Int)
def Zl (bs:List Int):ByteArray:=bs.foldl (fun r n=>r.push (UInt8.ofNat n.toNat)) ByteArray.empty
theorem X18 (s:ByteArray):(X0k s).length=s.size:=by simp [X0k]
theorem Xdj (s:ByteArray):∀c∈X0k s,0≤c∧c < 256:=by
 intro c hc
 obtain ⟨b,_,rfl⟩:=List.mem_map.1 hc
 have:=b.toNat_lt
 omega
theorem Xf0:∀(bs:List Int) (r:ByteArray),(bs.foldl (fun r n=>r.push (UInt8.ofNat n.toNat)) r).data.toList=r.data.toList ++ bs.map (fun n=>UInt8.ofNat n.toNat)
 | [],r=>by simp
 |b :: bs,r=>by
  rw [List.foldl_cons,Xf0 bs]
  simp [ByteArray.push]
theorem X3w (bs:List Int):(Zl bs).data.toList=bs.map (fun n=>UInt8.ofNat n.toNat):=by
 rw [Zl,Xf0];rfl
theorem X0a (bs:List Int):(Zl bs).size=bs.length:=by
 have:=congrArg List.length (X3w bs)
 simpa using this
theorem X30 (bs:List Int) (h:∀c∈bs,0≤c∧c < 256):X0k (Zl bs)=bs:=by
 rw [X0k,X3w,List.map_map]
 have:∀c∈bs,((fun b:UInt8=>(b.toNat:Int)) ∘ fun n:Int=>UInt8.ofNat n.toNat) c=c:=by
  intro c hc
  have:=h c hc
  simp only [Function.comp,UInt8.toNat_ofNat']
  omega
 rw [List.map_congr_left this,List.map_id']
theorem Y08 {a b:ByteArray} (h:a.data.toList=b.data.toList):a=b:=by
 cases a with|mk x=>cases b with|mk y=>cases x;cases y;simp at h;subst h;rfl
theorem X4x (s:ByteArray):Zl (X0k s)=s:=by
 apply Y08
 rw [X3w,X0k,List.map_map]
 have:∀b∈s.data.toList,((fun n:Int=>UInt8.ofNat n.toNat) ∘ fun b:UInt8=>(b.toNat:Int)) b=b:=by
  intro b _
  simp
 rw [List.map_congr_left this,List.map_id']
def strB (s:ByteArray):List Int:=intB s.size ++ X0k s
def X1q (l:List ByteArray):Prop:=∀s∈l,s.size≤1000000
theorem Xas (s:ByteArray) (h:s.size≤1000000):1≤(strB s).length∧(strB s).length≤1000010:=by
 have:=Xgt s.size O_ O_
 rw [strB,A_,X18];omega
end
section
open Go.RowKit
theorem Xkf (s:ByteArray):Lib.strCells s=(X0k s).map (Value.int .u8):=by
 simp [Lib.strCells,X0k]
theorem Xvt (s:ByteArray) (w:World) (hs:s.size≤1000000000):Calls Tryz.prog 122 #[.string s] w (Xj8 w (strB s)):=by
 have hl0:=Xgt s.size O_ O_
 go_enter Tryz.func122,Tryz.ntmps122
 go_wp2_with (first|(at_builtin;refine Xiy (.tmp 5) (.tmp 6) 132 9 5 Xhd rfl rfl Tryz.underlying132 Tryz.underlying9 w.heap.size _ _ s rfl ho1 rfl (by rw [List.length_map];omega) hb1.size ?_;intro v' w' hown' hb')|(go_at_call 131;refine (Y2m _ _ O_ O_).mono ?_;rintro e w1 ⟨v1,rfl,ho1,hb1⟩))
 go_ret
 exact ⟨_,rfl,by rw [strB,List.map_append,←Xkf];exact hown',hb1.trans hb'⟩
def Ret3 (w:World) (r:Int×Int×Int) (e:Ending) (w' : World):Prop:=
 e = .returned (.tuple #[.int .i64 r.1, .int .i64 r.2.1, .int .i64 r.2.2])∧X9f w w'
theorem Ret3.mk {w w' : World} {r:Int×Int×Int} {x y z:Int} (h:r=(x,y,z)) (hs:X9f w w'):Ret3 w r (.returned (.tuple #[.int .i64 x, .int .i64 y, .int .i64 z])) w':=by
 subst h;exact ⟨rfl,hs⟩
end
end Go.Proofs.YtmciloafahkolaaGreatDoor
