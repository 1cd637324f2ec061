/- Out of: PwY, PwZ, PwZ2, PwWk, PwIt2, PwIt3, PwZ3, PwZ5, PwZ6, PwRn, PwOw. -/
import Derived.Test.YtmeekbjhpidcgaaDoorG14
namespace Go.Proofs.YtmeekbjhpidcgaaDoor
set_option linter.unusedSimpArgs false
set_option linter.unusedVariables false
set_option linter.unnecessarySimpa false
section
open Go.RowKit
variable {P:Program} {T:Tab} {σ:PS} {o:Oper} {i base:Nat} {ops:Array Oper} {ok:Nat→Nat→Bool} {rest:List (Nat×Oper)} {K:PS→Prop}
theorem pres_pval {d:Nat} {p:PV} (hg:pguard ops σ o=some true) (hd:o.dst=some d) (hE:presE T (headB ops o.dst) (base+i) (σ.only (ok i)) o.op=some ⟨p,[],none,[]⟩) (hb:σ.freeB (base+i)=true) (k:PWops P T ops base ok rest K (σ.put d p)):PWops P T ops base ok ((i,o) :: rest) K σ:=
 PWops.valEq hg hd hE rfl hb k
theorem PWops.idxM {d n k m e by_ o' : Nat} {z:Int} {zr:List PV} {kk:IntKind} {x ix:Operand} {t:TypeId} {ti:TyI} (hg:pguard ops σ o=some true) (hd:o.dst=some d) (hop:o.op = .indexAddr t x ix) (hx:pev σ x = .msl m o' n k) (hi:pev σ ix = .val (.int kk z)) (ht:T.at t=some ti) (hk:ti.kind = .slice e k by_ zr) (hb:σ.freeB (base+i)=true) (h0:0≤z∧z < n)
  (kn:PWops P T ops base ok rest K (σ.put d (.ptr m (o' + z.toNat * k)))):PWops P T ops base ok ((i,o) :: rest) K σ:=by
 refine pres_pval hg hd ?_ hb kn
 have h1:k=k∧(0:Int)≤z∧z < (n:Int):=⟨rfl,h0.1,h0.2⟩
 simp [hop,presE,pvalA,pval,pev_only,hx,hi,ht,hk,pindexAt,h1]
theorem PWops.idxP {d n k m o' : Nat} {e:TypeId} {ag:Bool} {z:Int} {kk:IntKind} {x ix:Operand} {t:TypeId} {ti:TyI} (hg:pguard ops σ o=some true) (hd:o.dst=some d) (hop:o.op = .indexAddr t x ix) (hx:pev σ x = .ptr m o') (hi:pev σ ix = .val (.int kk z)) (ht:T.at t=some ti) (hk:ti.kind = .arr n e k ag) (hb:σ.freeB (base+i)=true) (h0:0≤z∧z < n)
  (kn:PWops P T ops base ok rest K (σ.put d (.ptr m (o' + z.toNat * k)))):PWops P T ops base ok ((i,o) :: rest) K σ:=by
 refine pres_pval hg hd ?_ hb kn
 have h1:(0:Int)≤z∧z < (n:Int):=h0
 simp [hop,presE,pvalA,pval,pev_only,hx,hi,ht,hk,pindexAt,h1]
theorem ploadO_ptr {hd:Bool} {b:Nat→Option (List PV)} {t:TypeId} {id off:Nat} {bs:List PV} {ti:TyI} (hb:b id=some bs) (ht:T.at t=some ti) (h:ti.agg=true∨∃c,bs[off]? = some c∧c.ownB=false):ploadO T hd b t (.ptr id off)=none:=by
 simp only [ploadO]
 split
 ·rw [hb]
  simp only
  rcases h with h|⟨c,hc,h⟩
  ·split
   ·rw [ht];simp [h]
   ·rfl
  ·rw [hc]
   cases c with
   |sl n k cs own=>cases own with
    |none=>rfl
    |some E=>simp [PV.ownB] at h
   |_=>rfl
 ·rfl
theorem PWops.ldBA {d off m id:Nat} {bs row:List PV} {x:Operand} {t:TypeId} {kd:TD} {zr:List PV} {es:List SK} (hg:pguard ops σ o=some true) (hd:o.dst=some d) (hop:o.op = .load t x) (hx:pev σ x = .ptr id off) (ht:T.at t=some ⟨m,true,kd,zr,es⟩) (hb:σ.freeB (base+i)=true) (hbs:(σ.only (ok i)).b id=some bs) (hl:off+m≤bs.length) (hr:((bs.drop off).take m).map PV.bare=row)
  (kn:PWops P T ops base ok rest K (σ.put d (.agg row))):PWops P T ops base ok ((i,o) :: rest) K σ:=by
 refine PWops.valEq hg hd (p:=.agg (((bs.drop off).take m).map PV.bare)) ?_ (by rw [hr]) hb kn
 have h1:=ploadO_ptr (T:=T) (hd:=headB ops o.dst) (off:=off) hbs ht (.inl rfl)
 simp only [hop,presE,pev_only,hx,h1,pvalA,pval,ht,ploadAt,hbs,asVal,if_true,hl,Option.map_some]
theorem PWops.ldB {d off id:Nat} {bs:List PV} {c:PV} {x:Operand} {t:TypeId} {ti:TyI} (hg:pguard ops σ o=some true) (hd:o.dst=some d) (hop:o.op = .load t x) (hx:pev σ x = .ptr id off) (ht:T.at t=some ti) (ha:ti.agg=false) (hb:σ.freeB (base+i)=true) (hbs:(σ.only (ok i)).b id=some bs) (hc:bs[off]? = some c) (hn:c.ownB=false)
  (kn:PWops P T ops base ok rest K (σ.put d c)):PWops P T ops base ok ((i,o) :: rest) K σ:=by
 refine PWops.valEq hg hd (p:=c) ?_ rfl hb kn
 have h1:=ploadO_ptr (T:=T) (hd:=headB ops o.dst) (off:=off) hbs ht (.inr ⟨c,hc,hn⟩)
 simp only [hop,presE,pev_only,hx,h1,pvalA,pval,ht,ploadAt,hbs,asVal,ha,hc,Bool.false_eq_true,if_false,Option.map_some,PV.bare_of _ hn]
theorem PWops.stB {off id:Nat} {bs new out:List PV} {x y:Operand} {t:TypeId} {ti:TyI} (hg:pguard ops σ o=some true) (hd:o.dst=none) (hop:o.op = .store t x y) (hx:pev σ x = .ptr id off) (hn:(ownPV σ y).ownB=false) (hp:pcells (pev σ y)=some new) (ht:T.at t=some ti) (hb:σ.freeB (base+i)=true) (hbs:(σ.only (ok i)).b id=some bs) (hl:new.length=ti.size∧off+new.length≤bs.length) (hout:splice bs off new=out)
  (kn:PWops P T ops base ok rest K (σ.setb id out)):PWops P T ops base ok ((i,o) :: rest) K σ:=by
 refine PWops.step hg (E:=⟨.tup [],[(id,out)],none,[]⟩) ?_ hb ?_
 ·have hn' : (ownPV (σ.only (ok i)) y).ownB=false:=by cases y<;>exact hn
  have hl1:=hl.1
  have hl2:=hl.2
  have hsp:=splF_eq _ _ _ hl2
  rw [hout] at hsp
  simp only [hop,presE,pev_only,hx,hn',hbs,ht,hp,Bool.false_eq_true,if_false]
  rw [if_pos ⟨hl1,hl2⟩,hsp]
 ·rw [hd];exact kn
theorem PWops.ldAll {d m id:Nat} {cs:List PV} {x:Operand} {t:TypeId} {kd:TD} {zr:List PV} {es:List SK} (hg:pguard ops σ o=some true) (hd:o.dst=some d) (hop:o.op = .load t x) (hx:pev σ x = .ptr id 0) (ht:T.at t=some ⟨m,true,kd,zr,es⟩) (hb:σ.freeB (base+i)=true) (hbs:(σ.only (ok i)).b id=some cs) (hl:cs.length=m) (hr:cs.map PV.bare=cs)
  (kn:PWops P T ops base ok rest K (σ.put d (.agg cs))):PWops P T ops base ok ((i,o) :: rest) K σ:=
 PWops.ldBA hg hd hop hx ht hb hbs (by omega) (by rw [List.drop_zero,List.take_of_length_le (by omega)];exact hr) kn
theorem PWops.stAll {id:Nat} {bs new:List PV} {x y:Operand} {t:TypeId} {ti:TyI} (hg:pguard ops σ o=some true) (hd:o.dst=none) (hop:o.op = .store t x y) (hx:pev σ x = .ptr id 0) (hn:(ownPV σ y).ownB=false) (hv:pev σ y = .agg new) (ht:T.at t=some ti) (hb:σ.freeB (base+i)=true) (hbs:(σ.only (ok i)).b id=some bs) (hl:new.length=ti.size) (hl2:bs.length=ti.size) (ho:new.all PV.one=true) (hr:new.map PV.bare=new)
  (kn:PWops P T ops base ok rest K (σ.setb id new)):PWops P T ops base ok ((i,o) :: rest) K σ:=
 PWops.stB hg hd hop hx hn (new:=new) (by rw [hv];simp only [pcells,ho,if_true,hr]) ht hb hbs ⟨hl,by omega⟩ (by
  have:splice bs 0 new=new:=by unfold splice;simp;omega
  exact this) kn
theorem PWops.boxA {d:Nat} {cs:List PV} {x:Operand} {t:TypeId} (hg:pguard ops σ o=some true) (hd:o.dst=some d) (hop:o.op = .box t x) (hx:pev σ x = .agg cs) (hb:σ.freeB (base+i)=true) (ho:cs.all PV.one=true) (hr:cs.map PV.bare=cs)
  (kn:PWops P T ops base ok rest K ((σ.setb (base+i) cs).put d (.ptr (base+i) 0))):PWops P T ops base ok ((i,o) :: rest) K σ:=by
 refine PWops.step hg (E:=⟨.ptr (base+i) 0,[(base+i,cs)],none,[]⟩) ?_ hb (by rw [hd];exact kn)
 have h1:(σ.only (ok i)).b (base+i)=none∧(σ.only (ok i)).m (base+i)=none:=by
  obtain ⟨q1,q2⟩:=PS.freeB_spec hb
  simp only [PS.only,q1,q2]
  constructor<;>split<;>rfl
 simp only [hop,presE,pev_only,hx,pcells,ho,if_true,hr,h1.1,h1.2]
theorem pres_cell {id:Nat} {cs:List PV} {x:Nat} {ty:TypeId} {m:Nat} {kd:TD} {zr:List PV} {es:List SK} (hx:(σ.t x).bare = .ptr id 0) (ht:T.at ty=some ⟨m,true,kd,zr,es⟩) (hb:σ.b id=some cs) (hl:cs.length=m) (hr:cs.map PV.bare=cs):pres1 T σ (.cell x ty)=some (.agg cs):=by
 simp only [pres1,ht,hx,ploadAt,hb,asVal,if_true]
 rw [if_pos (by omega),List.drop_zero,List.take_of_length_le (by omega),hr]
theorem presult2 {x y:ResultVar} {p q:PV} (h1:pres1 T σ x=some p) (h2:pres1 T σ y=some q):presult T σ [x,y]=some (.tup [p.bare,q.bare]):=by
 simp [presult,h1,h2]
theorem presult1 {x:ResultVar} {p:PV} (h1:pres1 T σ x=some p):presult T σ [x]=some p:=h1
theorem PWops.ldRB {α:Type} [Inhabited α] {d j k:Nat} {f:α→List PV} {l:List α} {x:Operand} {t:TypeId} {kd:TD} {zr:List PV} {es:List SK} (hg:pguard ops σ o=some true) (hd:o.dst=some d) (hop:o.op = .load t x) (hx:pev σ x = .ep (l.flatMap f) (j * k)) (ht:T.at t=some ⟨k,true,kd,zr,es⟩) (hb:σ.freeB (base+i)=true) (hk:∀x,(f x).length=k) (hl:j < l.length) (hr:∀x,(f x).map PV.bare=f x)
  (kn:PWops P T ops base ok rest K (σ.put d (.agg (f (l.getD j default))))):PWops P T ops base ok ((i,o) :: rest) K σ:=by
 refine PWops.ldA hg hd hop hx ht hb ?_ ?_ kn
 ·rw [flatMap_len hk]
  have:=Nat.mul_le_mul_right k (show j+1≤l.length from hl)
  rw [Nat.succ_mul] at this;exact this
 ·rw [flatMap_row hk (getD_get default hl)];exact hr _
theorem splice_row {α:Type} {f:α→List PV} {k:Nat} (hk:∀x,(f x).length=k) {l:List α} {j:Nat} {x:α} (h:j < l.length):splice (l.flatMap f) (j * k) (f x)=(l.set j x).flatMap f:=by
 unfold splice
 rw [flatMap_take hk,hk,show j * k+k=(j+1) * k by rw [Nat.succ_mul],flatMap_drop hk]
 rw [List.set_eq_take_append_cons_drop,if_pos h]
 simp [List.flatMap_append]
theorem PWops.ldBR {α:Type} [Inhabited α] {d j k id:Nat} {f:α→List PV} {l:List α} {row:List PV} {x:Operand} {t:TypeId} {kd:TD} {zr:List PV} {es:List SK} (hg:pguard ops σ o=some true) (hd:o.dst=some d) (hop:o.op = .load t x) (hx:pev σ x = .ptr id (0+j * k)) (ht:T.at t=some ⟨k,true,kd,zr,es⟩) (hb:σ.freeB (base+i)=true) (hbs:(σ.only (ok i)).b id=some (l.flatMap f)) (hk:∀x,(f x).length=k) (hl:j < l.length) (hr:(f (l.getD j default)).map PV.bare=row)
  (kn:PWops P T ops base ok rest K (σ.put d (.agg row))):PWops P T ops base ok ((i,o) :: rest) K σ:=by
 refine PWops.ldBA hg hd hop hx ht hb hbs ?_ ?_ kn
 ·rw [flatMap_len hk]
  have:=Nat.mul_le_mul_right k (show j+1≤l.length from hl)
  rw [Nat.succ_mul] at this;omega
 ·rw [Nat.zero_add,flatMap_row hk (getD_get default hl)];exact hr
theorem PWops.ldBC {α:Type} [Inhabited α] {d j k r id:Nat} {f:α→List PV} {l:List α} {c:PV} {x:Operand} {t:TypeId} {ti:TyI} (hg:pguard ops σ o=some true) (hd:o.dst=some d) (hop:o.op = .load t x) (hx:pev σ x = .ptr id (0+j * k+r)) (ht:T.at t=some ti) (ha:ti.agg=false) (hb:σ.freeB (base+i)=true) (hbs:(σ.only (ok i)).b id=some (l.flatMap f)) (hk:∀x,(f x).length=k) (hl:j < l.length) (hc:(f (l.getD j default))[r]? = some c) (hn:c.ownB=false)
  (kn:PWops P T ops base ok rest K (σ.put d c)):PWops P T ops base ok ((i,o) :: rest) K σ:=
 PWops.ldB hg hd hop hx ht ha hb hbs (by rw [Nat.zero_add];exact flatMap_get hk (getD_get default hl) hc) hn kn
theorem PWops.stBR {α:Type} {j k id:Nat} {f:α→List PV} {l:List α} {v:α} {x y:Operand} {t:TypeId} {ti:TyI} (hg:pguard ops σ o=some true) (hd:o.dst=none) (hop:o.op = .store t x y) (hx:pev σ x = .ptr id (0+j * k)) (hn:(ownPV σ y).ownB=false) (hp:pcells (pev σ y)=some (f v)) (ht:T.at t=some ti) (hb:σ.freeB (base+i)=true) (hbs:(σ.only (ok i)).b id=some (l.flatMap f)) (hk:∀x,(f x).length=k) (hl:j < l.length) (hs:ti.size=k)
  (kn:PWops P T ops base ok rest K (σ.setb id ((l.set j v).flatMap f))):PWops P T ops base ok ((i,o) :: rest) K σ:=by
 refine PWops.stB hg hd hop hx hn hp ht hb hbs ⟨by rw [hk,hs],?_⟩ ?_ kn
 ·rw [flatMap_len hk,hk]
  have:=Nat.mul_le_mul_right k (show j+1≤l.length from hl)
  rw [Nat.succ_mul] at this;omega
 ·rw [Nat.zero_add];exact splice_row hk hl
theorem PWops.lkp {d mid clock kt et:Nat} {x k:Operand} {t:TypeId} {okk:Bool} {es:List (Nat×PV×PV)} {kv:Value} {ti ki ei:TyI} {c:PV} {b:Bool} (hg:pguard ops σ o=some true) (hd:o.dst=some d) (hop:o.op = .lookup t x k okk) (hx:pev σ x = .mref mid) (hm:(σ.only (ok i)).m mid=some (.map es clock)) (hkv:pev σ k = .val kv) (ht:T.at t=some ti) (hk:ti.kind = .map kt et) (hki:T.at kt=some ki) (hei:T.at et=some ei) (hb:σ.freeB (base+i)=true)
  (hget:mget ki ei es kv=some (c,b)) (kn:PWops P T ops base ok rest K (σ.put d (if okk then .tup [c, .val (.bool b)] else c))):PWops P T ops base ok ((i,o) :: rest) K σ:=by
 refine PWops.valEq hg hd (p:=if okk then .tup [c, .val (.bool b)] else c) ?_ rfl hb kn
 simp only [hop,presE,pvalA,pval,pvalX,ht,hk,plookup,pev_only,hx,hkv,hki,hei,pents,hm,hget,Option.map_some]
theorem PWops.lkpO {d mid clock kt et j s n kk:Nat} {x k:Operand} {t:TypeId} {es:List (Nat×PV×PV)} {kp:PV} {cs:List PV} {E:TypeId} {kv:Value} {ti ki:TyI} {sk:SK} (hg:pguard ops σ o=some true) (hd:o.dst=some d) (hop:o.op = .lookup t x k false) (hx:pev σ x = .mref mid) (hm:(σ.only (ok i)).m mid=some (.map es clock)) (hkv:pev σ k = .val kv) (ht:T.at t=some ti) (hk:ti.kind = .map kt et) (hki:T.at kt=some ki) (hb:σ.freeB (base+i)=true) (hh:headB ops o.dst=true)
  (hko:keyOK ki.kind kv=true) (hsk:skT ki.kind=some sk) (hf:mfind sk kv es 0=some (some j)) (hj:es[j]? = some (s,kp, .sl n kk cs (some E))) (kn:PWops P T ops base ok rest K ((σ.setm mid (.map (es.set j (s,kp, .sl n kk cs none)) clock)).put d (.sl n kk cs (some E)))):PWops P T ops base ok ((i,o) :: rest) K σ:=by
 refine PWops.stepM hg (E:=⟨.sl n kk cs (some E),[],none,[(mid, .map (es.set j (s,kp, .sl n kk cs none)) clock)]⟩) ?_ hb ?_
 ·simp only [hop,presM,hh,ptake,ht,hk,hki,pev_only,hx,mapOf,hm,hkv,hko,hsk,hf,hj,if_true,true_and]
 ·rw [hd];exact kn
theorem PWops.mput {mid clock kt et:Nat} {x k v:Operand} {t:TypeId} {es:List (Nat×PV×PV)} {kv:Value} {ti ki:TyI} {X:PMap} {p:PV} (hg:pguard ops σ o=some true) (hd:o.dst=none) (hop:o.op = .mapUpdate t x k v) (hx:pev σ x = .mref mid) (hm:(σ.only (ok i)).m mid=some (.map es clock)) (hkv:pev σ k = .val kv) (ht:T.at t=some ti) (hk:ti.kind = .map kt et) (hki:T.at kt=some ki) (hb:σ.freeB (base+i)=true)
  (hn:(ownPV σ v).ownB=false) (hv:pev σ v=p) (hput:Go.Proofs.YtmeekbjhpidcgaaDoor.mput ki es clock kv p=some X) (kn:PWops P T ops base ok rest K (σ.setm mid X)):PWops P T ops base ok ((i,o) :: rest) K σ:=by
 refine PWops.stepM hg (E:=⟨.tup [],[],none,[(mid,X)]⟩) ?_ hb ?_
 ·have hn' : (ownPV (σ.only (ok i)) v).ownB=false:=by cases v<;>exact hn
  simp only [hop,presM,pput,ht,hk,hki,pev_only,hx,mapOf,hm,hkv,ownArg,hn',Bool.false_eq_true,if_false,hv,hput,Option.map_some]
 ·rw [hd];exact kn
theorem PWops.mputO {mid clock kt et s n kk:Nat} {x k:Operand} {t:TypeId} {es:List (Nat×PV×PV)} {kv:Value} {ti ki:TyI} {X:PMap} {cs:List PV} {E:TypeId} (hg:pguard ops σ o=some true) (hd:o.dst=none) (hop:o.op = .mapUpdate t x k (.tmp s)) (hx:pev σ x = .mref mid) (hm:(σ.only (ok i)).m mid=some (.map es clock)) (hkv:pev σ k = .val kv) (ht:T.at t=some ti) (hk:ti.kind = .map kt et) (hki:T.at kt=some ki) (hb:σ.freeB (base+i)=true)
  (hs:σ.t s = .sl n kk cs (some E)) (hput:Go.Proofs.YtmeekbjhpidcgaaDoor.mput ki es clock kv (.sl n kk cs (some E))=some X) (kn:PWops P T ops base ok rest K ((σ.put s (.sl n kk cs none)).setm mid X)):PWops P T ops base ok ((i,o) :: rest) K σ:=by
 refine PWops.stepM hg (E:=⟨.tup [],[],some s,[(mid,X)]⟩) ?_ hb ?_
 ·have hs' : ownPV (σ.only (ok i)) (.tmp s) = .sl n kk cs (some E):=hs
  simp only [hop,presM,pput,ht,hk,hki,pev_only,hx,mapOf,hm,hkv,ownArg,hs',PV.ownB,if_true,disOf,hput,Option.map_some]
 ·rw [hd]
  simp only [PS.app,hs,List.foldl_nil,List.foldl_cons]
  exact kn
theorem PWops.mdel {mid clock kt et:Nat} {x k:Operand} {t:TypeId} {tl:List TypeId} {es:List (Nat×PV×PV)} {kv:Value} {ti ki:TyI} {X:PMap} (hg:pguard ops σ o=some true) (hd:o.dst=none) (hop:o.op = .call { callee:=.builtin .delete,args := #[x,k],argTypes:=(t :: tl).toArray }) (hx:pev σ x = .mref mid) (hm:(σ.only (ok i)).m mid=some (.map es clock)) (hkv:pev σ k = .val kv) (ht:T.at t=some ti) (hk:ti.kind = .map kt et) (hki:T.at kt=some ki) (hb:σ.freeB (base+i)=true)
  (hdel:Go.Proofs.YtmeekbjhpidcgaaDoor.mdel ki es clock kv=some X) (kn:PWops P T ops base ok rest K (σ.setm mid X)):PWops P T ops base ok ((i,o) :: rest) K σ:=by
 refine PWops.stepM hg (E:=⟨.tup [],[],none,[(mid,X)]⟩) ?_ hb ?_
 ·simp only [hop,presM,pdel,ht,hk,hki,pev_only,hx,mapOf,hm,hkv,hdel,Option.map_some]
 ·rw [hd];exact kn
theorem PWops.copy {d n k e by_ id o' n2:Nat} {bs cs out zr:List PV} {x y:Operand} {t:TypeId} {tl:List TypeId} {ti:TyI} (hg:pguard ops σ o=some true) (hop:o.op = .call { callee:=.builtin .copy,args := #[x,y],argTypes:=(t :: tl).toArray }) (hd:o.dst=some d) (hx:pev σ x = .msl id o' n k) (hbs:(σ.only (ok i)).b id=some bs) (hy:copySrc (σ.only (ok i)).b k (pev σ y)=some (n2,cs)) (ht:T.at t=some ti) (hk:ti.kind = .slice e k by_ zr) (hb:σ.freeB (base+i)=true)
  (hl:o' + min n2 n * k≤bs.length) (hcl:min n2 n * k≤cs.length) (hout:splice bs o' (cs.take (min n2 n * k))=out) (kn:PWops P T ops base ok rest K ((σ.setb id out).put d (.val (.int .i64 (min n2 n:Nat))))):PWops P T ops base ok ((i,o) :: rest) K σ:=by
 refine PWops.stepM hg (E:=⟨.val (.int .i64 (min n2 n:Nat)),[(id,out)],none,[]⟩) ?_ hb ?_
 ·have e1:o' + (cs.take (min n2 n * k)).length≤bs.length:=by rw [List.length_take,Nat.min_eq_left hcl];exact hl
  simp only [hop,presM,ht,pcopy,hk,pev_only,hx,hbs,hy,hl,and_self,if_true,splF_eq _ _ _ e1,hout]
 ·rw [hd];exact kn
theorem PWops.eqA {d:Nat} {op:BinOp} {xs ys:List PV} {x y:Operand} {t yt:TypeId} {ti:TyI} {b:Bool} (hg:pguard ops σ o=some true) (hd:o.dst=some d) (hop:o.op = .binOp op t x y yt) (hx:pev σ x = .agg xs) (hy:pev σ y = .agg ys) (ht:T.at t=some ti) (hb:σ.freeB (base+i)=true) (hne:ti.eqs.isEmpty=false) (h:peqs ti.eqs xs ys=some b) (ho:op = .eql∨op = .neq) (kn:PWops P T ops base ok rest K (σ.put d (.val (.bool (if op = .eql then b else !b))))):PWops P T ops base ok ((i,o) :: rest) K σ:=by
 refine PWops.valEq hg hd (p:=.val (.bool (if op = .eql then b else !b))) ?_ rfl hb kn
 have:pbinA op ti.eqs xs ys=some (.bool (if op = .eql then b else !b)):=by
  unfold pbinA
  cases he:ti.eqs with
  |nil=>rw [he] at hne;cases hne
  |cons k ks=>
   rw [he] at h
   rcases ho with rfl|rfl
   ·simp [h]
   ·simp [h]
 simp only [hop,presE,pvalA,pval,pev_only,hx,hy,ht,this,Option.map_some]
theorem peqs_ints {k:IntKind} : ∀(xs ys:List Int),xs.length=ys.length→peqs (List.replicate xs.length .int) (xs.map fun x=>.val (.int k x)) (ys.map fun x=>.val (.int k x))=some (xs == ys)
 | [],[],_=>rfl
 |x :: xs,y :: ys,h=>by
  have ih:=peqs_ints (k:=k) xs ys (by simpa using h)
  simp only [List.length_cons,List.replicate_succ,List.map_cons,peqs,veq,if_true,ih]
  rfl
 | [],y :: ys,h=>by simp at h
 |x :: xs,[],h=>by simp at h
theorem PWops.shlK {d:Nat} {k k' : IntKind} {x y:Int} {X Y:Operand} {t yt:TypeId} (hg:pguard ops σ o=some true) (hd:o.dst=some d) (hop:o.op = .binOp .shl t X Y yt) (hx:pev σ X = .val (.int k x)) (hy:pev σ Y = .val (.int k' y)) (hb:σ.freeB (base+i)=true) (h0:0≤y) (kn:PWops P T ops base ok rest K (σ.put d (.val (.int k (k.wrap (x * 2 ^ (min y.toNat k.bits))))))):PWops P T ops base ok ((i,o) :: rest) K σ:=by
 refine PWops.valEq hg hd (p:=.val (.int k (k.wrap (x * 2 ^ (min y.toNat k.bits))))) ?_ rfl hb kn
 simp only [hop,presE,pvalA,pval,pev_only,hx,hy,pbin,h0,if_true]
 rfl
theorem PWops.shrK {d:Nat} {k k' : IntKind} {x y:Int} {X Y:Operand} {t yt:TypeId} (hg:pguard ops σ o=some true) (hd:o.dst=some d) (hop:o.op = .binOp .shr t X Y yt) (hx:pev σ X = .val (.int k x)) (hy:pev σ Y = .val (.int k' y)) (hb:σ.freeB (base+i)=true) (h0:0≤y) (kn:PWops P T ops base ok rest K (σ.put d (.val (.int k (x.fdiv (2 ^ (min y.toNat k.bits))))))):PWops P T ops base ok ((i,o) :: rest) K σ:=by
 refine PWops.valEq hg hd (p:=.val (.int k (x.fdiv (2 ^ (min y.toNat k.bits))))) ?_ rfl hb kn
 simp only [hop,presE,pvalA,pval,pev_only,hx,hy,pbin,h0,if_true]
 rfl
theorem PWops.litA {d k e by_:Nat} {cs zr:List PV} {x:Operand} {t:TypeId} {ti:TyI} (hg:pguard ops σ o=some true) (hd:o.dst=some d) (hop:o.op = .buildSlice t 1 #[(0,x)]) (hx:pev σ x = .agg cs) (ht:T.at t=some ti) (hk:ti.kind = .slice e k by_ zr) (hb:σ.freeB (base+i)=true) (hl:cs.length=k) (hz:zr.length=k) (hk2:Nat.ble k 16777216=true) (he:Nat.blt e 1000000=true) (ho:cs.all PV.one=true) (hr:cs.map PV.bare=cs) (kn:PWops P T ops base ok rest K (σ.put d (.sl 1 k cs (some e)))):PWops P T ops base ok ((i,o) :: rest) K σ:=by
 refine PWops.step hg (E:=⟨.sl 1 k cs (some e),[],none,[]⟩) ?_ hb (by rw [hd];exact kn)
 have e1:(List.replicate 1 zr).flatten=zr:=by simp
 have hle:1 * k≤16777216:=by have:=Nat.le_of_ble_eq_true hk2;omega
 have he' : e < 1000000:=by simpa [Nat.blt_eq] using he
 have hs:splF zr 0 cs=cs:=by
  rw [splF_eq _ _ _ (by omega)]
  unfold splice;simp;omega
 simp only [hop,presE,ht,hk,hle,he',and_self,if_true,e1,List.map_cons,List.map_nil,pev_only,hx,pfill,pcells,ho,hr,hl,hz,Nat.zero_mul,Nat.zero_add,Nat.le_refl,and_self,hs,Option.map_some]
theorem PW.stamps {M:Nat} {c:Code} {Q:Exit→PS→Prop} {id clock:Nat} {es:List (Nat×PV×PV)} (hm:σ.m id=some (.map es clock)) (h:StampsOK es clock→PW P M c Q σ):PW P M c Q σ:=by
 intro Φ0 W a w hr
 obtain ⟨Φ,μ,ω,hg⟩:=hr
 obtain ⟨g,-,-,-,-,hst,-⟩:=hg.map id _ hm
 exact h hst Φ0 W a w ⟨Φ,μ,ω,hg⟩
theorem run_next {w:World} {g gm since last clock:Nat} {seen:Array Nat} {ents:Array MapEntry} (ty:TypeId) (hit:w.heap[g]? = some (.mapIter (some gm) since seen last)) (hm:w.heap[gm]? = some (.map ents clock)) (hcl:seen.isEmpty=true∨ents.isEmpty=true∨∃e∈ents,e.born < last) :
  ((∀e∈ents,e.born < since→seen.contains e.born=true)∧∃w1,(w1=w∨w1=w.drew)∧(Instr.next (.pointer (some ⟨g,0,none⟩)) false ty).run P w = .ok (.tuple #[.bool false]) w1) ∨
  ∃e∈ents,seen.contains e.born=false∧∃w1,(w1=w∨w1=w.drew)∧(Instr.next (.pointer (some ⟨g,0,none⟩)) false ty).run P w = .ok (.tuple #[.bool true,e.key,e.val]) (World.setO w1 g (.mapIter (some gm) since (seen.push e.born) clock)):=by
 have h1:(getObj g).run P w = .ok (.mapIter (some gm) since seen last) w:=by simp [getObj,Sem.run,hit]
 have h2:=Go.run_getObj_map (P:=P) (w:=w) gm ents clock hm
 have h3:(!seen.isEmpty && !ents.isEmpty && ents.all (fun x=>decide (x.born≥last)))=false:=by
  rcases hcl with h|h|⟨e,he,h⟩
  ·simp [h]
  ·simp [h]
  ·have:ents.all (fun x=>decide (x.born≥last))=false:=by
    rw [Bool.eq_false_iff]
    intro hh
    rw [Array.all_eq_true_iff_forall_mem] at hh
    have:=hh e he
    simp at this;omega
   simp [this]
 simp only [Instr.next,Sem.run_bind,h1,h2,Result.andThen_ok,h3,Bool.false_eq_true,if_false]
 generalize hL:Array.filter (fun e => !seen.contains e.born) ents=L
 generalize hold:L.filter (fun e=>decide (e.born < since))=old
 generalize hnew:L.filter (fun e=>decide (e.born≥since))=new
 generalize hC:(if old.isEmpty=true then #[none] else #[]) ++ (old ++ new).map some=C
 have hmem:∀e∈old ++ new,e∈ents∧seen.contains e.born=false:=by
  intro e he
  have:e∈L:=by
   rw [Array.mem_append] at he
   rcases he with he|he
   ·rw [←hold,Array.mem_filter] at he;exact he.1
   ·rw [←hnew,Array.mem_filter] at he;exact he.1
  rw [←hL,Array.mem_filter] at this
  exact ⟨this.1,by simpa using this.2⟩
 have hsz:0 < C.size:=by
  rw [←hC]
  by_cases ho:old.isEmpty=true
  ·simp [ho];omega
  ·simp only [ho,if_false,Bool.false_eq_true]
   have:0 < old.size:=by
    rcases Nat.eq_zero_or_pos old.size with h0|h0
    ·exact absurd (by simpa [Array.isEmpty] using h0) ho
    ·exact h0
   simp;omega
 have hch:∃(j:Nat) (w1:World),j < C.size∧(w1=w∨w1=w.drew)∧(choose (Question.mapNext C.size)).run P w = .ok j w1:=by
  by_cases hf:C.size≤1
  ·exact ⟨0,w,hsz, .inl rfl,by simp [choose,Sem.run,Question.forced,hf]⟩
  ·exact ⟨_,w.drew,Nat.mod_lt _ hsz, .inr rfl,by
    simp only [choose,Sem.run,Question.forced,decide_eq_true_eq,hf,if_false,Question.cut]
    rfl⟩
 obtain ⟨j,w1,hj,hw1,hrun⟩:=hch
 have hw1h:w1.heap[g]? = some (.mapIter (some gm) since seen last):=by rcases hw1 with rfl|rfl<;>exact hit
 simp only [hrun,Result.andThen_ok,Array.getElem?_eq_getElem hj]
 cases hc:C[j] with
 |none=>
  left
  refine ⟨fun e he hlt=>?_,w1,hw1,rfl⟩
  have hoe:old.isEmpty=true:=by
   cases ho:old.isEmpty with
   |true=>rfl
   |false=>
    exfalso
    have:(none:Option MapEntry)∈C:=by rw [←hc];exact Array.getElem_mem hj
    rw [←hC,ho] at this
    simp at this
  cases hs:seen.contains e.born with
  |true=>rfl
  |false=>
   exfalso
   have h5:e∈L:=by rw [←hL,Array.mem_filter];exact ⟨he,by rw [hs];rfl⟩
   have h6:e∈old:=by rw [←hold,Array.mem_filter];exact ⟨h5,by simpa using hlt⟩
   have h7:old = #[]:=by simpa [Array.isEmpty] using hoe
   rw [h7] at h6;simp at h6
 |some e=>
  right
  have hmC:some e∈C:=by rw [←hc];exact Array.getElem_mem hj
  have he:e∈old ++ new:=by
   rw [←hC] at hmC
   rw [Array.mem_append] at hmC
   rcases hmC with h|h
   ·exfalso
    split at h<;>simp at h
   ·rw [Array.mem_map] at h
    obtain ⟨x,hx,e1⟩:=h
    cases e1;exact hx
  obtain ⟨m1,m2⟩:=hmem e he
  refine ⟨e,m1,m2,w1,hw1,?_⟩
  have hset:(setObj g (.mapIter (some gm) since (seen.push e.born) clock)).run P w1 = .ok () (World.setO w1 g (.mapIter (some gm) since (seen.push e.born) clock)):=by
   have:(Go.setObj g (.mapIter (some gm) since (seen.push e.born) clock)).run P w1 = .ok () { w1 with heap:=w1.heap.setIfInBounds g (.mapIter (some gm) since (seen.push e.born) clock) }:=by simp [Go.setObj,Sem.run,hw1h]
   exact this
  simp only [Sem.run_bind,hset,Result.andThen_ok,Sem.run_pure]
def nextS (σ:PS) (d it mid since last clock:Nat) (seen:List Nat) (e:Option (Nat×PV×PV)):PS:=match e with
 |some e=>((σ.setm it (.iter mid since (seen ++ [e.1]) clock)).put d (.tup [.val (.bool true),e.2.1.bare,e.2.2.bare]))
 |none=>σ.put d (.tup [.val (.bool false)])
theorem PWnext (hT:T=tabOf P) {M:Nat} {id it mid since last clock d:Nat} {seen:List Nat} {es:List (Nat×PV×PV)} {x:Operand} {t:TypeId} {p:String} {af:Array Edge} {rest:List Oper} {Q:Exit→PS→Prop} (hx:pev σ x = .ptr it 0) (hi:σ.m it=some (.iter mid since seen last)) (hm:σ.m mid=some (.map es clock)) (hM:d < M)
  (hall2:(({ dst:=some d,op:=.next x false,type:=t,pos:=p,after:=af,guard:=none } :: rest).all (dstB M) && Nat.ble (1000 * id+rest.length+1) 1000000)=true)
  (hcl:seen = []∨es = []∨∃e∈es,e.1 < last)
  (hnone:(∀e∈es,e.1 < since→e.1∈seen)→PWops P T ({ dst:=some d,op:=.next x false,type:=t,pos:=p,after:=af,guard:=none } :: rest).toArray (1000 * id) (fun _ _=>true) (indexed 1 rest) (Q .normal) (nextS σ d it mid since last clock seen none))
  (hsome:∀e∈es,e.1∉seen→PWops P T ({ dst:=some d,op:=.next x false,type:=t,pos:=p,after:=af,guard:=none } :: rest).toArray (1000 * id) (fun _ _=>true) (indexed 1 rest) (Q .normal) (nextS σ d it mid since last clock seen (some e))) :
  PW P M (.region id ({ dst:=some d,op:=.next x false,type:=t,pos:=p,after:=af,guard:=none } :: rest).toArray false) Q σ:=by
 intro Φ0 W a w hr
 have hall2':=hall2
 simp only [Bool.and_eq_true] at hall2'
 obtain ⟨hall,hb0⟩:=hall2'
 have hbase:=Nat.le_of_ble_eq_true hb0
 refine wpIn_region ?_
 let ops:List Oper:={ dst:=some d,op:=.next x false,type:=t,pos:=p,after:=af,guard:=none } :: rest
 have hsnd:∀(σ:PS) a w,PWops P T ops.toArray (1000 * id) (fun _ _=>true) (indexed 1 rest) (Q .normal) σ→Rel Φ0 W M σ a w→wpOpsIn (FW Φ0.round) 0 P ops.toArray (Lift Φ0 W M Q) ((indexed 1 rest).map (·.1)) a w:=by
  intro σ a w h hr
  exact ops_sound (Φ0:=Φ0) (W:=W) (M:=M) hT (ops:=ops.toArray) (by
   intro j o hj
   exact List.all_eq_true.1 hall o (mem_of_get (by simpa using hj))) (by simp [ops];omega) (Q:=Q .normal) (Q':=Lift Φ0 W M Q) (fun σ a w hq hrel=>⟨_,Φ0,W,hq,Later.refl _ _,hrel⟩) (indexed 1 rest) (by
   intro x hx
   obtain ⟨h1,h2⟩:=indexed_mem 1 rest x hx
   have e1:x.1=(x.1 - 1)+1:=by omega
   rw [e1]
   simpa [ops] using h2) σ a w h hr
 have hrange:List.range ops.toArray.size=0 :: ((indexed 1 rest).map (·.1)):=by
  rw [indexed_fst,List.range_eq_range',List.size_toArray]
  show List.range' 0 (rest.length+1)=_
  rw [List.range'_succ]
 show wpOpsIn (FW Φ0.round) 0 P ops.toArray (Lift Φ0 W M Q) (List.range ops.toArray.size) a w
 rw [hrange]
 simp only [wpOpsIn]
 have h0:ops.toArray[0]? = some { dst:=some d,op:=.next x false,type:=t,pos:=p,after:=af,guard:=none }:=by simp [ops]
 rw [h0]
 simp only
 obtain ⟨Φ,μ,ω,hg⟩:=hr
 have hw:Region.wanted ({ dst:=some d,op:=.next x false,type:=t,pos:=p,after:=af,guard:=none } : Oper) (yielded ops.toArray a.tmps)=true:=by simp [Region.wanted]
 rw [if_pos hw]
 refine wpIn_of_wp (fun c e=>by cases e) ?_
 have hxr:=hg.ev x
 rw [hx] at hxr
 obtain ⟨g,hgi,hxv⟩:=hxr.ptr_inv
 obtain ⟨g',k1,k2,k3,k4,gm,k5,k6⟩:=hg.map it _ hi
 rw [hgi] at k1;cases k1
 obtain ⟨gm',m1,m2,m3,m4,hst,ents,m5,m6,m7⟩:=hg.map mid _ hm
 rw [k5] at m1;cases m1
 have hentry:∀e∈ents,∃x∈es,x.1=e.born∧Rep Φ μ x.2.1 e.key∧Rep Φ μ x.2.2 e.val:=by
  intro e he
  obtain ⟨j,hj,rfl⟩:=Array.getElem_of_mem he
  have hjl:j < es.length:=by rw [←m6];exact hj
  obtain ⟨e',q1,q2,q3,q4,-⟩:=m7 j es[j].1 es[j].2.1 es[j].2.2 (List.getElem?_eq_getElem hjl)
  rw [Array.getElem?_eq_getElem hj] at q1
  cases q1
  exact ⟨es[j],by simp,q2.symm,q3,q4⟩
 have hentry' : ∀x∈es,∃e∈ents,x.1=e.born:=by
  intro x hx
  obtain ⟨j,hj,rfl⟩:=List.getElem_of_mem hx
  obtain ⟨e',q1,q2,-⟩:=m7 j es[j].1 es[j].2.1 es[j].2.2 (List.getElem?_eq_getElem hj)
  exact ⟨e',Array.mem_of_getElem? q1,q2.symm⟩
 have hcl' : seen.toArray.isEmpty=true∨ents.isEmpty=true∨∃e∈ents,e.born < last:=by
  rcases hcl with h|h|⟨x,hx,h⟩
  ·left;simp [h]
  ·right;left;have:ents.size=0:=by rw [m6,h];rfl
   simpa [Array.isEmpty] using this
  ·right;right;obtain ⟨e,he,h1⟩:=hentry' x hx;exact ⟨e,he,by omega⟩
 have hexec:∀v w',(Instr.next (.pointer (some ⟨g,0,none⟩)) false t).run P w = .ok v w'→(execOp a.eval { dst:=some d,op:=.next x false,type:=t,pos:=p,after:=af,guard:=none }).run P w = .ok (.value v) w':=by
  intro v w' hr
  simp only [execOp,hxv,Sem.run_bind,hr,Result.andThen_ok,Sem.run_pure]
 have hdr:∀w1,(w1=w∨w1=w.drew)→RelG Φ0 W M Φ μ ω σ a w1:=by
  rintro w1 (rfl|rfl)
  ·exact hg
  ·exact hg.drew
 unfold Oper.wp
 rcases run_next (P:=P) (w:=w) t k6 m5 hcl' with ⟨h1,w1,hw1,hrun⟩|⟨e,he,hse,w1,hw1,hrun⟩
 ·rw [hexec _ _ hrun]
  refine hsnd _ _ _ (hnone fun x hx hlt=>?_) ⟨Φ,μ,ω,((hdr w1 hw1).put hM (p:=.tup [.val (.bool false)]) ?_ rfl)⟩
  ·obtain ⟨e,he,e1⟩:=hentry' x hx
   have:=h1 e he (by omega)
   rw [e1];simpa using this
  ·have:=(RepL.cons (Rep.val (Φ:=Φ) (μ:=μ) (.bool false) rfl) RepL.nil).tup
   simpa using this
 ·rw [hexec _ _ hrun]
  obtain ⟨x',hx',e1,e2,e3⟩:=hentry e he
  have hstep:=(hdr w1 hw1).setMap (X':=.iter mid since (seen ++ [e.born]) clock) hi hgi (.mapIter (some gm) since (seen.toArray.push e.born) clock) ⟨gm,k5,by simp⟩
  have hfin:=hstep.put hM (p:=.tup [.val (.bool true),x'.2.1.bare,x'.2.2.bare]) (v:=.tuple #[.bool true,e.key,e.val]) (by
   have:=(RepL.cons (Rep.val (Φ:=Φ) (μ:=μ) (.bool true) rfl) (RepL.cons e2.bare (RepL.cons e3.bare RepL.nil))).tup
   simpa using this) rfl
  refine hsnd _ _ _ (hsome x' hx' (by rw [e1];simpa using hse)) ⟨Φ,μ,ω,?_⟩
  simp only [nextS,PS.setm,e1]
  exact hfin
end
section
open Go.RowKit
theorem PW.condTe {P:Program} {M:Nat} {Q:Exit→PS→Prop} {σ:PS} {c:Operand} {x y:Code} {b:Bool} (hc:pev σ c = .val (.bool b)) (hb:b=true) (h:PW P M x Q σ):PW P M (.cond c x y) Q σ:=PW.condT (by rw [hc,hb]) h
theorem PW.condFe {P:Program} {M:Nat} {Q:Exit→PS→Prop} {σ:PS} {c:Operand} {x y:Code} {b:Bool} (hc:pev σ c = .val (.bool b)) (hb:b=false) (h:PW P M y Q σ):PW P M (.cond c x y) Q σ:=PW.condF (by rw [hc,hb]) h
end
section
open Go.RowKit
variable {P:Program} {M:Nat} {Q:Exit→PS→Prop} {σ:PS}
def PWin (P:Program) (M:Nat) (c:Code) (Q:Exit→PS→Prop) (σ:PS):Prop:=
 ∀Φ0 W a w,Rel Φ0 W M σ a w→∀b k cs,b.roundOf=(FW Φ0.round).round→(FW Φ0.round).fn b.fn→(FW Φ0.round).room (cs.length+1+0)→∃e a' w',Lift Φ0 W M Q e a' w'∧ArrivesIn (Machine.fenced P (FW Φ0.round)) P (lone (b.atR a (.code c :: .inLoop c :: k)) cs w) b k cs e a' w'
theorem PWin.from {c:Code} (h:PWin P M c Q σ) {Φ0 Φ1:Ent} {W W1:World} (hl:Later Φ0 W Φ1 W1) {a:Act} {w:World} (hr:Rel Φ1 W1 M σ a w):∀b k cs,b.roundOf=(FW Φ0.round).round→(FW Φ0.round).fn b.fn→(FW Φ0.round).room (cs.length+1+0)→∃e a' w',Lift Φ0 W M Q e a' w'∧ArrivesIn (Machine.fenced P (FW Φ0.round)) P (lone (b.atR a (.code c :: .inLoop c :: k)) cs w) b k cs e a' w':=by
 have:=h Φ1 W1 a w hr
 rw [hl.round] at this
 intro b k cs h1 h2 h3
 obtain ⟨e,a',w',hq,harr⟩:=this b k cs h1 h2 h3
 exact ⟨e,a',w',hq.later hl,harr⟩
def LoopU (P:Program) (M:Nat) (c:Code) (Q:Exit→PS→Prop):Exit→PS→Prop
 | .normal,σ=>PWin P M c Q σ
 |e,σ=>Q e σ
theorem PWin.round {c:Code} (h:PW P M c (LoopU P M c Q) σ):PWin P M c Q σ:=by
 intro Φ0 W a w hr b k cs hro hb hroom
 obtain ⟨e,a₁,w₁,⟨σ₁,Φ1,W1,hq,hl,hrel⟩,harr⟩:=h Φ0 W a w hr b (.inLoop c :: k) cs hro hb hroom
 cases e with
 |normal=>
  obtain ⟨e₂,a₂,w₂,hq₂,harr₂⟩:=PWin.from hq hl hrel b k cs hro hb hroom
  exact ⟨e₂,a₂,w₂,hq₂, .of_steps (StepsIn.trans harr (.one (fenced_calm hb hroom rfl) stepR_inLoop)) harr₂⟩
 |exit id=>exact ⟨_,a₁,w₁,⟨σ₁,Φ1,W1,hq,hl,hrel⟩, .pass (x:=.inLoop c) rfl (fun _ _=>.inl (by simp)) harr⟩
 |goto l=>exact ⟨_,a₁,w₁,⟨σ₁,Φ1,W1,hq,hl,hrel⟩, .pass (x:=.inLoop c) rfl (fun _ _=>.inl (by simp)) harr⟩
 |ret=>exact ⟨_,a₁,w₁,⟨σ₁,Φ1,W1,hq,hl,hrel⟩, .pass (x:=.inLoop c) rfl (fun _ _=>.inl (by simp)) harr⟩
 |panic ch=>exact ⟨_,a₁,w₁,⟨σ₁,Φ1,W1,hq,hl,hrel⟩, .pass (x:=.inLoop c) rfl (fun _ _=>.inl (by simp)) harr⟩
 |outgrown=>exact ⟨_,a₁,w₁,⟨σ₁,Φ1,W1,hq,hl,hrel⟩, .pass (x:=.inLoop c) rfl (fun _ _=>.inl (by simp)) harr⟩
theorem PW.unroll {c:Code} (h:PW P M c (LoopU P M c Q) σ):PW P M (.loop c) Q σ:=by
 intro Φ0 W a w hr b k cs hro hb hroom
 obtain ⟨e,a',w',hq,harr⟩:=PWin.round h Φ0 W a w hr b k cs hro hb hroom
 exact ⟨e,a',w',hq, .of_steps (.one (fenced_calm hb hroom rfl) stepR_loop) harr⟩
theorem loopU {c:Code} (h:PW P M c (LoopU P M c Q) σ):LoopU P M c Q .normal σ:=PWin.round h
theorem loopU_exit {c:Code} {j:Nat} (h:Q (.exit j) σ):LoopU P M c Q (.exit j) σ:=h
theorem loopU_ret {c:Code} (h:Q .ret σ):LoopU P M c Q .ret σ:=h
end
section
open Go.RowKit
variable {κ:Nat→Nat} {S:Nat→Prop} {σ σ' : PS}
theorem SubR.isb {i:Nat} {c:List PV} (h:SubR κ S σ (σ'.setb i c)):SubR κ S σ (σ'.setb i c):=h
theorem SubR.ism {i:Nat} {c:PMap} (h:SubR κ S σ (σ'.setm i c)):SubR κ S σ (σ'.setm i c):=h
theorem SubR.isp {i:Nat} {c:PV} (h:SubR κ S σ (σ'.put i c)):SubR κ S σ (σ'.put i c):=h
end
section
open Go.RowKit
def pu32 (z:Int):PV:=.val (.int .u32 z)
def pu64 (z:Int):PV:=.val (.int .u64 z)
theorem low_pu32 (z:Int):Low (pu32 z)↔True:=low_val _
theorem low_pu64 (z:Int):Low (pu64 z)↔True:=low_val _
theorem len_map {α β:Type} {f:α→β} {l:List α} {n:Nat} (h:l.length=n):(l.map f).length=n:=by rw [List.length_map,h]
theorem bare_map {α:Type} {f:α→PV} (h:∀x,(f x).bare=f x) (l:List α):(l.map f).map PV.bare=l.map f:=by rw [List.map_map];exact List.map_congr_left fun x _=>h x
theorem one_map {α:Type} {f:α→PV} (h:∀x,(f x).one=true) (l:List α):(l.map f).all PV.one=true:=by rw [List.all_map,List.all_eq_true];exact fun x _=>h x
theorem low_map {α:Type} {f:α→PV} (h:∀x,Low (f x)) (l:List α):∀c∈l.map f,Low c:=by
 intro c hc
 obtain ⟨z,-,rfl⟩:=List.mem_map.1 hc
 exact h z
theorem RenQL.lowE {κ:Nat→Nat} {S:Nat→Prop} {qs ps:List PV} (h:qs=ps) (hl:∀p∈ps,Low p):RenQL κ S qs ps:=by subst h;exact RenQL.low hl
end
section
open Go.RowKit
variable {P:Program} {T:Tab} {σ:PS} {o:Oper} {i base:Nat} {ops:Array Oper} {ok:Nat→Nat→Bool} {rest:List (Nat×Oper)} {K:PS→Prop}
def notI64:IntKind→Bool
 | .i64=>false
 |_=>true
theorem PWops.arU {d:Nat} {k:IntKind} {z:Int} (hk:isArith o.op=true) (hg:pguard ops σ o=some true) (hd:o.dst=some d) (hE:feff (presE T (headB ops o.dst) (base+i) (σ.only (ok i)) o.op)=some (.val (.int k z))) (hn:notI64 k=true) (hb:σ.freeB (base+i)=true) (kn:PWops P T ops base ok rest K (σ.put d (.val (.int k z)))):PWops P T ops base ok ((i,o) :: rest) K σ:=PWops.val hg hd hE hb kn
theorem PWops.idxE1 {d n:Nat} {e:TypeId} {ag:Bool} {z:Int} {cs:List PV} {kk:IntKind} {x ix:Operand} {t:TypeId} {ti:TyI} (hg:pguard ops σ o=some true) (hd:o.dst=some d) (hop:o.op = .indexAddr t x ix) (hx:pev σ x = .ep cs 0) (hi:pev σ ix = .val (.int kk z)) (ht:T.at t=some ti) (hk:ti.kind = .arr n e 1 ag) (hb:σ.freeB (base+i)=true) (h0:0≤z∧z < n)
  (kn:PWops P T ops base ok rest K (σ.put d (.ep cs z.toNat))):PWops P T ops base ok ((i,o) :: rest) K σ:=by
 refine pres_pval hg hd ?_ hb kn
 have h1:(0:Int)≤z∧z < (n:Int):=h0
 simp [hop,presE,pvalA,pval,pev_only,hx,hi,ht,hk,pindexAt,h1]
theorem PWops.idxP1 {d n m:Nat} {e:TypeId} {ag:Bool} {z:Int} {kk:IntKind} {x ix:Operand} {t:TypeId} {ti:TyI} (hg:pguard ops σ o=some true) (hd:o.dst=some d) (hop:o.op = .indexAddr t x ix) (hx:pev σ x = .ptr m 0) (hi:pev σ ix = .val (.int kk z)) (ht:T.at t=some ti) (hk:ti.kind = .arr n e 1 ag) (hb:σ.freeB (base+i)=true) (h0:0≤z∧z < n)
  (kn:PWops P T ops base ok rest K (σ.put d (.ptr m z.toNat))):PWops P T ops base ok ((i,o) :: rest) K σ:=by
 refine pres_pval hg hd ?_ hb kn
 have h1:(0:Int)≤z∧z < (n:Int):=h0
 simp [hop,presE,pvalA,pval,pev_only,hx,hi,ht,hk,pindexAt,h1]
theorem PWops.idxV {α:Type} [Inhabited α] {d n:Nat} {e:TypeId} {z:Int} {f:α→PV} {l:List α} {q:PV} {kk:IntKind} {x ix:Operand} {t:TypeId} {ti:TyI} (hg:pguard ops σ o=some true) (hd:o.dst=some d) (hop:o.op = .index t x ix) (hx:pev σ x = .agg (l.map f)) (hi:pev σ ix = .val (.int kk z)) (ht:T.at t=some ti) (hk:ti.kind = .arr n e 1 false) (hb:σ.freeB (base+i)=true) (h0:0≤z∧z < n∧z < l.length) (hq:fval (f (l.getD z.toNat default)).bare=some q)
  (kn:PWops P T ops base ok rest K (σ.put d q)):PWops P T ops base ok ((i,o) :: rest) K σ:=by
 refine PWops.valEq hg hd (p:=(f (l.getD z.toNat default)).bare) ?_ (fval_eq hq) hb kn
 have h1:(0:Int)≤z∧z < (n:Int):=⟨h0.1,h0.2.1⟩
 have h2:(l.map f)[z.toNat]? = some (f (l.getD z.toNat default)):=map_get (getD_get default (by omega))
 simp [hop,presE,pvalA,pval,pev_only,hx,hi,ht,hk,pindexV,h1,asVal,h2]
theorem PWops.ldG {d m:Nat} {cs:List PV} {x:Operand} {t:TypeId} {kd:TD} {zr:List PV} {es:List SK} (hg:pguard ops σ o=some true) (hd:o.dst=some d) (hop:o.op = .load t x) (hx:pev σ x = .ep cs 0) (ht:T.at t=some ⟨m,true,kd,zr,es⟩) (hb:σ.freeB (base+i)=true) (hl:cs.length=m) (hr:cs.map PV.bare=cs)
  (kn:PWops P T ops base ok rest K (σ.put d (.agg cs))):PWops P T ops base ok ((i,o) :: rest) K σ:=by
 refine PWops.ldA hg hd hop hx ht hb (by omega) ?_ kn
 rw [List.drop_zero,List.take_of_length_le (by omega)];exact hr
theorem PWops.ldMB {α:Type} [Inhabited α] {d id off:Nat} {f:α→PV} {l:List α} {q:PV} {x:Operand} {t:TypeId} {ti:TyI} (hg:pguard ops σ o=some true) (hd:o.dst=some d) (hop:o.op = .load t x) (hx:pev σ x = .ptr id off) (ht:T.at t=some ti) (ha:ti.agg=false) (hb:σ.freeB (base+i)=true) (hbs:(σ.only (ok i)).b id=some (l.map f)) (hl:off < l.length) (hq:fval (f (l.getD off default))=some q) (hn:(f (l.getD off default)).ownB=false)
  (kn:PWops P T ops base ok rest K (σ.put d q)):PWops P T ops base ok ((i,o) :: rest) K σ:=
 PWops.ldB hg hd hop hx ht ha hb hbs (map_get (getD_get default hl)) hn (by rw [fval_eq hq];exact kn)
theorem set_map {α β:Type} (f:α→β) (l:List α) (j:Nat) (x:α):(l.map f).set j (f x)=(l.set j x).map f:=by
 rw [List.map_set]
theorem splice_one {bs:List PV} {off:Nat} {c:PV} (h:off < bs.length):splice bs off [c]=bs.set off c:=by
 unfold splice
 rw [List.set_eq_take_append_cons_drop,if_pos h];simp
theorem PWops.stMB {α:Type} {id off:Nat} {f:α→PV} {l:List α} {v:α} {x y:Operand} {t:TypeId} {ti:TyI} (hg:pguard ops σ o=some true) (hd:o.dst=none) (hop:o.op = .store t x y) (hx:pev σ x = .ptr id off) (hn:(ownPV σ y).ownB=false) (ht:T.at t=some ti) (hb:σ.freeB (base+i)=true) (hbs:(σ.only (ok i)).b id=some (l.map f)) (hp:pcells (pev σ y)=some [f v]) (hs:ti.size=1) (hl:off < l.length)
  (kn:PWops P T ops base ok rest K (σ.setb id ((l.set off v).map f))):PWops P T ops base ok ((i,o) :: rest) K σ:=by
 refine PWops.stB hg hd hop hx hn hp ht hb hbs ⟨by rw [hs];rfl,by simp;omega⟩ ?_ kn
 rw [splice_one (by simpa using hl),set_map]
theorem PWops.slcP {d id o' n k h l:Nat} {e:TypeId} {ag:Bool} {x:Operand} {lo hi:Option Operand} {t:TypeId} {ti:TyI} (hg:pguard ops σ o=some true) (hd:o.dst=some d) (hop:o.op = .slice t x lo hi none) (hx:pev σ x = .ptr id o') (ht:T.at t=some ti) (hk:ti.kind = .arr n e k ag) (hb:σ.freeB (base+i)=true) (hh:pbound n n (hi.map (pev σ))=some h) (hlo:pbound 0 h (lo.map (pev σ))=some l) (hn:n≤1000000000)
  (kn:PWops P T ops base ok rest K (σ.put d (.msl id (o' + l * k) (h - l) k))):PWops P T ops base ok ((i,o) :: rest) K σ:=by
 refine pres_pval hg hd ?_ hb kn
 have e1:∀x:Operand,pev (σ.only (ok i)) x=pev σ x:=fun x=>pev_only ..
 have e2:∀x:Option Operand,x.map (pev (σ.only (ok i)))=x.map (pev σ):=fun x=>by cases x<;>simp [e1]
 simp [hop,presE,pvalA,pval,pev_only,e2,hx,ht,hk,pslice,hh,hlo,hn]
end
section
open Go.RowKit
def immA (w:World):Imm:=fun b o=>w.cell? ⟨b,o,none⟩
inductive AsRead (given:List (Nat×List PV)):PV→PV→Prop
 |same (p:PV):AsRead given p p
 |msl (id o n k:Nat) (bs:List PV) (h:(id,bs)∈given) (hl:o+n * k≤bs.length):AsRead given (.msl id o n k) (.sl n k ((bs.drop o).take (n * k)) none)
inductive AsReadL (given:List (Nat×List PV)):List PV→List PV→Prop
 |nil:AsReadL given [] []
 |cons {p q:PV} {ps qs:List PV} (h:AsRead given p q) (hs:AsReadL given ps qs):AsReadL given (p :: ps) (q :: qs)
theorem AsRead.rep {given:List (Nat×List PV)} {p q:PV} (h:AsRead given p q) {B:Nat→Prop} {Φ:Imm} {μ:Nat→Option Nat} {ω:Nat→Option Who} {w:World} {v:Value} (himm:∀b o u,Φ b o=some u→w.cell? ⟨b,o,none⟩=some u) (hgb:∀x∈given,BoxAt B Φ μ ω w x.1 x.2) (hr:Rep Φ μ p v):Rep (immA w) μ q v:=by
 cases h with
 |same=>exact hr.mono himm (fun _ _ e=>e)
 |msl id o n k bs h hl=>
  obtain ⟨a,cap,rfl,h1,h2,h3⟩:=hr.msl_inv
  obtain ⟨g,cur,T,k1,k2,-,-,-,k6,k7⟩:=hgb _ h
  by_cases hn:n=0
  ·subst hn
   rw [Nat.zero_mul,List.take_zero]
   exact .sl0 k none a cap h2
  ·obtain ⟨g',e1,rfl⟩:=h3 (by omega)
   simp only at k1
   rw [k1] at e1
   cases e1
   have hlen:((bs.drop o).take (n * k)).length=n * k:=by rw [List.length_take,List.length_drop];omega
   have hget:∀j c,((bs.drop o).take (n * k))[j]? = some c→bs[o+j]? = some c:=by
    intro j c hc
    rw [List.getElem?_take] at hc
    split at hc
    ·rwa [List.getElem?_drop] at hc
    ·cases hc
   have hcell:∀j,immA w g (o+j)=cur[o+j]?:=fun j=>by simp only [immA,World.cell?,k2];simp
   refine .sl n k _ none g o cap (fun j=>cur.getD (o+j) undef) hlen h1 h2 (fun j hj=>?_) (fun j c hc=>?_)
   ·rw [hcell]
    obtain ⟨c,hc⟩:∃c,((bs.drop o).take (n * k))[j]? = some c:=⟨_,List.getElem?_eq_getElem hj⟩
    obtain ⟨u,r1,-⟩:=k7 _ _ (hget j c hc)
    rw [r1,Array.getD_eq_getD_getElem?,r1];rfl
   ·obtain ⟨u,r1,-,r3,-⟩:=k7 _ _ (hget j c hc)
    rw [Array.getD_eq_getD_getElem?,r1]
    exact r3.mono himm (fun _ _ e=>e)
theorem AsReadL.rep {given:List (Nat×List PV)} {ps qs:List PV} (h:AsReadL given ps qs) {B:Nat→Prop} {Φ:Imm} {μ:Nat→Option Nat} {ω:Nat→Option Who} {w:World} (himm:∀b o u,Φ b o=some u→w.cell? ⟨b,o,none⟩=some u) (hgb:∀x∈given,BoxAt B Φ μ ω w x.1 x.2):∀{vs:List Value},RepL Φ μ ps vs→RepL (immA w) μ qs vs:=by
 induction h with
 |nil=>exact fun hr=>⟨hr.1,fun j c u hc=>by simp at hc⟩
 |cons h hs ih=>
  intro vs hr
  cases vs with
  |nil=>exact absurd hr.1 (by simp)
  |cons v vs=>
   have h1:=h.rep himm hgb (hr.2 0 _ _ rfl rfl)
   have h2:=ih (vs:=vs) ⟨by simpa using hr.1,fun j c u hc hu=>hr.2 (j+1) c u (by simpa using hc) (by simpa using hu)⟩
   exact .cons h1 h2
open Classical in
theorem HCalls.ofP {P:Program} {f:FuncId} {args args' : List PV} {r:PV} {given:List (Nat×List PV)} {gm:List (Nat×PMap)} (h:PCalls P f args (· = r)) (hA:AsReadL given args' args) (hlow:∀x∈given,∀c∈x.2,LowI (fun i=>i∈ResIds given gm) c) (hlowM:∀x∈gm,LowM (fun i=>i∈ResIds given gm) x.2) (hr:Flat r) (hro:r.ownB=false):HCalls P f args' given gm r given gm:=by
 refine ⟨h.1,fun Φ μ ω w vs himm hgl hrep hgb hgmm hlt=>?_⟩
 refine (h.2 (immA w) μ w vs (fun _ _ _ e=>e) (fun x hx j z e=>himm _ _ _ (hgl x hx j z e)) (hA.rep himm hgb hrep)).mono ?_
 rintro e w' ⟨r',v,Φ',rfl,rfl,hrep',-,-,hb,-⟩
 let μ' : Nat→Option Nat:=fun i=>if i∈ResIds given gm then μ i else none
 let ω' : Nat→Option Who:=fun g=>if Giv ω (ResIds given gm) g then ω g else none
 have hμ:∀i,i∈ResIds given gm→∀g,μ i=some g→μ' i=some g:=fun i hi g e=>by show (if _ then _ else _)=_;rw [if_pos hi];exact e
 have hω:∀i,i∈ResIds given gm→∀q,OfId i q→∀g,ω g=some q→ω' g=some q∧NewOr ω w (ResIds given gm) g:=by
  intro i hi q hq g e
  have hgv:Giv ω (ResIds given gm) g:=⟨i,hi,q,hq,e⟩
  refine ⟨?_, .inr hgv⟩
  show (if _ then _ else _)=_
  rw [if_pos hgv];exact e
 have hω' : ∀g q,ω' g=some q→ω g=some q∧Giv ω (ResIds given gm) g:=by
  intro g q e
  have e' : (if Giv ω (ResIds given gm) g then ω g else none)=some q:=e
  split at e'
  ·rename_i hg;exact ⟨e',hg⟩
  ·cases e'
 have hheap:∀g q,ω' g=some q→w'.heap[g]? = w.heap[g]?:=fun g q e=>hb.block g (hlt g q (hω' g q e).1)
 refine ⟨v,Φ,μ',ω',rfl,hrep'.flat hr,fun b o u e=>?_,fun _ _ _ e=>e,fun _ _ _ _=>rfl,Kept.of hb (fun k hk=>hk.1),fun id hid=>?_,fun id g e=>?_,fun x hx=>?_,fun x hx=>?_,fun g p e=>?_,fun n k cs E e=>?_⟩
 ·have h1:=himm b o u e
  have hlt':=World.block_lt_of_cell? _ _ h1
  rw [hb.cell hlt'];exact h1
 ·show (if _ then _ else _)=_;rw [if_pos hid]
 ·have e' : (if id∈ResIds given gm then μ id else none)=some g:=e
  split at e'
  ·assumption
  ·cases e'
 ·have hi:x.1∈ResIds given gm:=List.mem_append.2 (.inl (List.mem_map.2 ⟨x,hx,rfl⟩))
  refine ((hgb x hx).lowI (S:=fun i=>i∈ResIds given gm) (B':=NewOr ω w (ResIds given gm)) (μ':=μ') (ω':=ω') hi (hlow x hx) hμ (fun q hq g e=>hω x.1 hi q hq g e)).step (fun _ _ _ e=>e) (fun _ _ e=>e) (fun q hq g e=>⟨hheap g q e,fun _=>rfl,e⟩)
 ·have hi:x.1∈ResIds given gm:=List.mem_append.2 (.inr (List.mem_map.2 ⟨x,hx,rfl⟩))
  refine ((hgmm x hx).lowI (S:=fun i=>i∈ResIds given gm) (B':=NewOr ω w (ResIds given gm)) (μ':=μ') (ω':=ω') hi (hlowM x hx) hμ (fun q hq g e=>hω x.1 hi q hq g e)).step (fun _ _ _ e=>e) (fun _ _ e=>e) (fun q hq g e=>⟨hheap g q e,fun _=>rfl,e⟩)
 ·obtain ⟨e1,e2⟩:=hω' g p e
  exact ⟨Nat.lt_of_lt_of_le (hlt g p e1) hb.size, .inr e2⟩
 ·rw [e] at hro;simp [PV.ownB] at hro
end
section
open Go.RowKit
variable {P:Program} {T:Tab} {σ:PS} {o:Oper} {i base:Nat} {ops:Array Oper} {ok:Nat→Nat→Bool} {rest:List (Nat×Oper)} {K:PS→Prop}
theorem PWops.valE {d:Nat} {p q:PV} (hg:pguard ops σ o=some true) (hd:o.dst=some d) (hE:feff (presE T (headB ops o.dst) (base+i) (σ.only (ok i)) o.op)=some p) (e:p=q) (hb:σ.freeB (base+i)=true) (k:PWops P T ops base ok rest K (σ.put d q)):PWops P T ops base ok ((i,o) :: rest) K σ:=
 PWops.val hg hd (by rw [hE,e]) hb k
theorem PWops.cvI {d:Nat} {z:Int} {x:Operand} {ts td:TypeId} (hop:o.op = .convert ts td x) (hg:pguard ops σ o=some true) (hd:o.dst=some d) (hE:feff (presE T (headB ops o.dst) (base+i) (σ.only (ok i)) o.op)=some (.val (.int .i64 (IntKind.i64.wrap z)))) (h1 : -9223372036854775808≤z) (h2:z≤9223372036854775807) (hb:σ.freeB (base+i)=true) (k:PWops P T ops base ok rest K (σ.put d (.val (.int .i64 z)))):PWops P T ops base ok ((i,o) :: rest) K σ:=
 PWops.valE hg hd hE (by rw [wrap64_id h1 h2]) hb k
theorem remU_at {a b:Nat} : ((a:Int)).tmod (b:Int)=((a % b:Nat):Int):=by rw [Int.tmod_eq_emod_of_nonneg (by omega)];simp
theorem PWops.remU {d a b:Nat} {k:IntKind} {x y:Int} {X Y:Operand} {t yt:TypeId} (hg:pguard ops σ o=some true) (hd:o.dst=some d) (hop:o.op = .binOp .rem t X Y yt) (hx:pev σ X = .val (.int k x)) (hy:pev σ Y = .val (.int k y)) (hb:σ.freeB (base+i)=true) (ha:x=a) (hbb:y=b) (h0:b≠0) (kn:PWops P T ops base ok rest K (σ.put d (.val (.int k ((a % b:Nat):Int))))):PWops P T ops base ok ((i,o) :: rest) K σ:=by
 subst ha;subst hbb
 refine PWops.valEq hg hd (p:=.val (.int k ((a:Int).tmod b))) ?_ (by rw [remU_at]) hb kn
 simp only [hop,presE,pvalA,pval,pev_only,hx,hy,pbin]
 rw [if_pos ⟨trivial,by omega⟩];rfl
theorem PWops.slcS {d k:Nat} {z:Int} {kl:IntKind} {s q:ByteArray} {x lo:Operand} {t:TypeId} {ti:TyI} (hg:pguard ops σ o=some true) (hd:o.dst=some d) (hop:o.op = .slice t x (some lo) none none) (hx:pev σ x = .val (.string s)) (hlo:pev σ lo = .val (.int kl z)) (ht:T.at t=some ti) (hk:ti.kind = .str) (hb:σ.freeB (base+i)=true) (hz:z=k) (hl:k≤s.size) (hq:s.extract k s.size=q)
  (kn:PWops P T ops base ok rest K (σ.put d (.val (.string q)))):PWops P T ops base ok ((i,o) :: rest) K σ:=by
 subst hz
 refine pres_pval hg hd ?_ hb kn
 have h1:pbound 0 s.size (some (.val (.int kl (k:Int))))=some k:=by simp [pbound,hl]
 have h2:pbound s.size s.size none=some s.size:=rfl
 simp [hop,presE,pvalA,pval,pev_only,hx,hlo,ht,hk,pslice,h1,h2,hq]
end
section
open Go.RowKit
structure Hold2 (q:Prop):Prop where
 out:q
theorem ops0 {p q:Prop} (k:q) (h:Hold2 q→p:=by intro hHold;((with_reducible refine PWops.idd ?_);first|(first|refine PWops.cvI rfl rfl rfl rfl (by (first|omega|(dsimp only;omega))) (by (first|omega|(dsimp only;omega))) rfl ?_|refine PWops.stepA rfl ?_|refine PWops.doneI rfl ?_|refine PWops.boolK true rfl rfl rfl rfl (by (first|rfl|assumption|(simp only [decide_eq_true_eq,decide_eq_false_iff_not,bne_iff_ne,beq_iff_eq,beq_eq_false_iff_ne,bne_eq_false_iff_eq,ne_eq];omega))) rfl ?_|refine PWops.boolK false rfl rfl rfl rfl (by (first|rfl|assumption|(simp only [decide_eq_true_eq,decide_eq_false_iff_not,bne_iff_ne,beq_iff_eq,beq_eq_false_iff_ne,bne_eq_false_iff_eq,ne_eq];omega))) rfl ?_|refine PWops.fitsK rfl rfl rfl rfl (by (first|omega|(dsimp only;omega))) (by (first|omega|(dsimp only;omega))) rfl ?_|refine PWops.remK rfl rfl rfl rfl (by (first|omega|(dsimp only;omega))) rfl ?_|refine PWops.quoK rfl rfl rfl rfl (by (first|omega|(dsimp only;omega))) rfl ?_|refine PWops.app rfl rfl rfl rfl rfl rfl rfl rfl (by (first|omega|(dsimp only;omega))) (by (first|omega|(dsimp only;omega))) (by first|rfl|exact secL_one _|exact putL_one _|exact one_pint _|exact one_pstr _|exact one_pbyte _|exact one_pattrs _) ?_|refine PWops.app0 rfl rfl rfl rfl rfl rfl rfl rfl (by (first|omega|(dsimp only;omega))) (by (first|omega|(dsimp only;omega))) (by first|rfl|exact secL_one _|exact putL_one _|exact one_pint _|exact one_pstr _|exact one_pbyte _|exact one_pattrs _) ?_|refine PWops.idx1 rfl rfl rfl rfl rfl rfl rfl rfl (by (first|omega|(dsimp only;omega))) ?_|refine PWops.idx rfl rfl rfl rfl rfl rfl rfl rfl (by (first|omega|(dsimp only;omega))) ?_|refine PWops.ld rfl rfl rfl rfl rfl rfl rfl (by assumption) rfl ?_|refine PWops.ldA rfl rfl rfl rfl rfl rfl (by (first|omega|(dsimp only;omega))) (by assumption) ?_|refine PWops.str rfl rfl rfl rfl rfl rfl rfl rfl rfl rfl rfl ?_)|(first|refine PWops.arU rfl rfl rfl rfl rfl rfl ?_|refine PWops.boxA rfl rfl rfl rfl rfl (by (first|rfl|exact secL_one _|exact dcellL_one _|exact putL_one _|exact one_map (fun _=>rfl) _)) (by (first|rfl|exact secL_bare _|exact dcellL_bare _|exact putL_bare _|exact bare_map (fun _=>rfl) _)) ?_|refine PWops.litA rfl rfl rfl rfl rfl rfl rfl (by (first|rfl|exact secL_len _|exact dcellL_len _|exact putL_len _|exact len_map (by assumption)|exact len_map rfl)) rfl rfl rfl (by (first|rfl|exact secL_one _|exact dcellL_one _|exact putL_one _|exact one_map (fun _=>rfl) _)) (by (first|rfl|exact secL_bare _|exact dcellL_bare _|exact putL_bare _|exact bare_map (fun _=>rfl) _)) ?_|refine PWops.shlK rfl rfl rfl rfl rfl rfl (by (first|omega|(dsimp only;omega)|decide)) ?_|refine PWops.shrK rfl rfl rfl rfl rfl rfl (by (first|omega|(dsimp only;omega)|decide)) ?_|refine PWops.ldBC rfl rfl rfl rfl rfl rfl rfl rfl (by (first|exact secL_len|exact dcellL_len|exact putL_len|(intro;rfl))) (by (first|omega|(dsimp only;omega))) (by (first|rfl|exact dcellL_64 _)) rfl ?_|refine PWops.ldRB rfl rfl rfl rfl rfl rfl (by (first|exact secL_len|exact dcellL_len|exact putL_len|(intro;rfl))) (by (first|omega|(dsimp only;omega))) (by (first|exact secL_bare|exact dcellL_bare|exact putL_bare|(intro;rfl))) ?_|refine PWops.ldSec rfl rfl rfl rfl rfl rfl rfl (by first|with_reducible rfl|with_reducible exact dC_flat _) (by rfl) (by (first|omega|(dsimp only;omega))) ?_|refine PWops.ldBR rfl rfl rfl rfl rfl rfl rfl (by (first|exact secL_len|exact dcellL_len|exact putL_len|(intro;rfl))) (by (first|omega|(dsimp only;omega))) (by (first|exact secL_bare _|exact dcellL_bare _|exact putL_bare _|rfl)) ?_|refine PWops.lkp rfl rfl rfl rfl rfl rfl rfl rfl rfl rfl rfl (by assumption) ?_|refine PWops.ldAll rfl rfl rfl rfl rfl rfl rfl (by (first|rfl|exact secL_len _|exact dcellL_len _|exact putL_len _|exact len_map (by assumption)|exact len_map rfl)) (by (first|rfl|exact secL_bare _|exact dcellL_bare _|exact putL_bare _|exact bare_map (fun _=>rfl) _)) ?_|refine PWops.stAll rfl rfl rfl rfl rfl rfl rfl rfl rfl (by (first|rfl|exact secL_len _|exact dcellL_len _|exact putL_len _|exact len_map (by assumption)|exact len_map rfl)) (by (first|rfl|exact secL_len _|exact dcellL_len _|exact putL_len _|exact len_map (by assumption)|exact len_map rfl)) (by (first|rfl|exact secL_one _|exact dcellL_one _|exact putL_one _|exact one_map (fun _=>rfl) _)) (by (first|rfl|exact secL_bare _|exact dcellL_bare _|exact putL_bare _|exact bare_map (fun _=>rfl) _)) ?_|refine PWops.idxM rfl rfl rfl rfl rfl rfl rfl rfl (by (first|omega|(dsimp only;omega))) ?_|refine PWops.idxP1 rfl rfl rfl rfl rfl rfl rfl rfl (by (first|omega|(dsimp only;omega))) ?_|refine PWops.idxP rfl rfl rfl rfl rfl rfl rfl rfl (by (first|omega|(dsimp only;omega))) ?_|(refine PWops.call rfl rfl rfl (by assumption) ?_)|(refine PWops.callR rfl rfl (by assumption) (by (first|exact trivial|exact ⟨⟨rfl,rfl⟩,trivial⟩|exact ⟨⟨rfl,rfl⟩,⟨rfl,rfl⟩,trivial⟩|exact ⟨⟨rfl,rfl⟩,⟨rfl,rfl⟩,⟨rfl,rfl⟩,trivial⟩|exact ⟨⟨rfl,rfl⟩,⟨rfl,rfl⟩,⟨rfl,rfl⟩,⟨rfl,rfl⟩,trivial⟩|exact ⟨⟨rfl,rfl⟩,⟨rfl,rfl⟩,⟨rfl,rfl⟩,⟨rfl,rfl⟩,⟨rfl,rfl⟩,trivial⟩|exact ⟨⟨rfl,rfl⟩,⟨rfl,rfl⟩,⟨rfl,rfl⟩,⟨rfl,rfl⟩,⟨rfl,rfl⟩,⟨rfl,rfl⟩,trivial⟩|exact ⟨⟨rfl,rfl⟩,⟨rfl,rfl⟩,⟨rfl,rfl⟩,⟨rfl,rfl⟩,⟨rfl,rfl⟩,⟨rfl,rfl⟩,⟨rfl,rfl⟩,trivial⟩|exact ⟨⟨rfl,rfl⟩,⟨rfl,rfl⟩,⟨rfl,rfl⟩,⟨rfl,rfl⟩,⟨rfl,rfl⟩,⟨rfl,rfl⟩,⟨rfl,rfl⟩,⟨rfl,rfl⟩,trivial⟩)) (by (first|exact trivial|exact ⟨⟨rfl,rfl⟩,trivial⟩|exact ⟨⟨rfl,rfl⟩,⟨rfl,rfl⟩,trivial⟩|exact ⟨⟨rfl,rfl⟩,⟨rfl,rfl⟩,⟨rfl,rfl⟩,trivial⟩|exact ⟨⟨rfl,rfl⟩,⟨rfl,rfl⟩,⟨rfl,rfl⟩,⟨rfl,rfl⟩,trivial⟩|exact ⟨⟨rfl,rfl⟩,⟨rfl,rfl⟩,⟨rfl,rfl⟩,⟨rfl,rfl⟩,⟨rfl,rfl⟩,trivial⟩|exact ⟨⟨rfl,rfl⟩,⟨rfl,rfl⟩,⟨rfl,rfl⟩,⟨rfl,rfl⟩,⟨rfl,rfl⟩,⟨rfl,rfl⟩,trivial⟩|exact ⟨⟨rfl,rfl⟩,⟨rfl,rfl⟩,⟨rfl,rfl⟩,⟨rfl,rfl⟩,⟨rfl,rfl⟩,⟨rfl,rfl⟩,⟨rfl,rfl⟩,trivial⟩|exact ⟨⟨rfl,rfl⟩,⟨rfl,rfl⟩,⟨rfl,rfl⟩,⟨rfl,rfl⟩,⟨rfl,rfl⟩,⟨rfl,rfl⟩,⟨rfl,rfl⟩,⟨rfl,rfl⟩,trivial⟩)) rfl (by first|exact .inl rfl|exact .inr (fun _ _=>rfl)) ?_)|(refine PWops.callH rfl rfl (by assumption) (by (first|exact trivial|exact ⟨⟨rfl,rfl⟩,trivial⟩|exact ⟨⟨rfl,rfl⟩,⟨rfl,rfl⟩,trivial⟩|exact ⟨⟨rfl,rfl⟩,⟨rfl,rfl⟩,⟨rfl,rfl⟩,trivial⟩|exact ⟨⟨rfl,rfl⟩,⟨rfl,rfl⟩,⟨rfl,rfl⟩,⟨rfl,rfl⟩,trivial⟩|exact ⟨⟨rfl,rfl⟩,⟨rfl,rfl⟩,⟨rfl,rfl⟩,⟨rfl,rfl⟩,⟨rfl,rfl⟩,trivial⟩|exact ⟨⟨rfl,rfl⟩,⟨rfl,rfl⟩,⟨rfl,rfl⟩,⟨rfl,rfl⟩,⟨rfl,rfl⟩,⟨rfl,rfl⟩,trivial⟩|exact ⟨⟨rfl,rfl⟩,⟨rfl,rfl⟩,⟨rfl,rfl⟩,⟨rfl,rfl⟩,⟨rfl,rfl⟩,⟨rfl,rfl⟩,⟨rfl,rfl⟩,trivial⟩|exact ⟨⟨rfl,rfl⟩,⟨rfl,rfl⟩,⟨rfl,rfl⟩,⟨rfl,rfl⟩,⟨rfl,rfl⟩,⟨rfl,rfl⟩,⟨rfl,rfl⟩,⟨rfl,rfl⟩,trivial⟩)) (by (first|exact trivial|exact ⟨⟨rfl,rfl⟩,trivial⟩|exact ⟨⟨rfl,rfl⟩,⟨rfl,rfl⟩,trivial⟩|exact ⟨⟨rfl,rfl⟩,⟨rfl,rfl⟩,⟨rfl,rfl⟩,trivial⟩|exact ⟨⟨rfl,rfl⟩,⟨rfl,rfl⟩,⟨rfl,rfl⟩,⟨rfl,rfl⟩,trivial⟩|exact ⟨⟨rfl,rfl⟩,⟨rfl,rfl⟩,⟨rfl,rfl⟩,⟨rfl,rfl⟩,⟨rfl,rfl⟩,trivial⟩|exact ⟨⟨rfl,rfl⟩,⟨rfl,rfl⟩,⟨rfl,rfl⟩,⟨rfl,rfl⟩,⟨rfl,rfl⟩,⟨rfl,rfl⟩,trivial⟩|exact ⟨⟨rfl,rfl⟩,⟨rfl,rfl⟩,⟨rfl,rfl⟩,⟨rfl,rfl⟩,⟨rfl,rfl⟩,⟨rfl,rfl⟩,⟨rfl,rfl⟩,trivial⟩|exact ⟨⟨rfl,rfl⟩,⟨rfl,rfl⟩,⟨rfl,rfl⟩,⟨rfl,rfl⟩,⟨rfl,rfl⟩,⟨rfl,rfl⟩,⟨rfl,rfl⟩,⟨rfl,rfl⟩,trivial⟩)) rfl (by first|exact .inl rfl|exact .inr (fun _ _=>rfl)) ?_)|refine PWops.idxZ1 rfl rfl rfl rfl rfl rfl rfl rfl (by (first|omega|(dsimp only;omega))) ?_|refine PWops.idxZ rfl rfl rfl rfl rfl rfl rfl rfl (by (first|omega|(dsimp only;omega))) ?_|refine PWops.ld rfl rfl rfl rfl rfl rfl rfl rfl rfl ?_|refine PWops.slcL rfl rfl rfl rfl rfl rfl rfl rfl (by (first|omega|(dsimp only;omega))) ?_|refine PWops.slcH rfl rfl rfl rfl rfl rfl rfl rfl (by (first|omega|(dsimp only;omega))) ?_|refine PWops.slcRL rfl rfl rfl rfl rfl rfl rfl rfl (by intro;rfl) (by (first|omega|(dsimp only;omega))) ?_|refine PWops.slcRH rfl rfl rfl rfl rfl rfl rfl rfl (by intro;rfl) (by (first|omega|(dsimp only;omega))) ?_|refine PWops.slcM rfl rfl rfl rfl rfl rfl rfl rfl rfl (by (first|omega|(dsimp only;omega))) ?_|refine PWops.ldM rfl rfl rfl rfl rfl rfl rfl (by (first|omega|(dsimp only;omega))) rfl ?_|refine PWops.ldR rfl rfl rfl rfl rfl rfl rfl (by (first|exact secL_len|exact dcellL_len|exact putL_len|(intro;rfl))) (by (first|omega|(dsimp only;omega))) rfl rfl ?_|refine PWops.ldRA rfl rfl rfl rfl rfl rfl (by intro;rfl) (by (first|omega|(dsimp only;omega))) rfl ?_|refine PWops.slcP rfl rfl rfl rfl rfl rfl rfl rfl rfl (by decide) ?_|refine PWops.idxE1 rfl rfl rfl rfl rfl rfl rfl rfl (by (first|omega|(dsimp only;omega))) ?_|refine PWops.ldG rfl rfl rfl rfl rfl rfl (by (first|rfl|exact secL_len _|exact dcellL_len _|exact putL_len _|exact len_map (by assumption)|exact len_map rfl)) (by (first|rfl|exact secL_bare _|exact dcellL_bare _|exact putL_bare _|exact bare_map (fun _=>rfl) _)) ?_|refine PWops.ldMB rfl rfl rfl rfl rfl rfl rfl rfl (by (first|omega|(dsimp only;omega))) rfl rfl ?_|refine PWops.stMB rfl rfl rfl rfl rfl rfl rfl rfl rfl rfl (by (first|omega|(dsimp only;omega))) ?_|refine PWops.idxV rfl rfl rfl rfl rfl rfl rfl rfl (by (first|omega|(dsimp only;omega))) rfl ?_));exact hHold.out):p:=h ⟨k⟩
theorem jw0 {p q:Prop} (k:q) (h:Hold2 q→p:=by intro hHold;((repeat (first|(with_reducible first|refine thenJ ?_|refine thenJ_ret ?_|refine thenJ_exit ?_|refine blockJ ?_|refine blockJ_exit ?_|refine blockJ_ret ?_|refine blockJ_other (by decide) ?_|refine loopJ_exit ?_|refine loopJ_ret ?_|refine PWJ.seq ?_|refine PWJ.block ?_|refine PWJ.skip ?_|refine PWJ.ret ?_|refine PWJ.exit ?_|refine PWJ.condT rfl ?_|refine PWJ.condF rfl ?_)|refine PWJ.condT rfl ?_|refine PWJ.condF rfl ?_)));exact hHold.out):p:=h ⟨k⟩
theorem rq0 {p:Prop} (h:p:=by (first|exact .inl (.ptr _ _ rfl)|exact .inl (.msl _ _ _ _ rfl)|exact .inl (.mref _ rfl)|exact .inl (.low _ (by exact lw))|exact .inr (.inl (.low _ (by exact lw)))|exact .inr (.inr ⟨_,_,rfl,rfl⟩))):p:=h
theorem rl0 {p:Prop} (h:p:=by (first|exact RenQL.low (by first|assumption|exact hlow _|exact hlow _ _|exact low_map (fun _=>Low.val _) _)|exact RenQL.lowE (by assumption) (low_map (fun _=>Low.val _) _)|((repeat (refine RenQL.cons (by exact rq0) ?_));exact RenQL.nil))):p:=h
theorem lt0 {p:Prop} (h:p:=by (repeat (first|exact lowT_bot|refine lowT_put ?_ (by first|exact .ptr _ _ rfl|exact .mref _ rfl|exact Low.lowI (by exact lw))|refine lowT_setb ?_|refine lowT_setm ?_))):p:=h
theorem ow0 {p:Prop} (h:p:=by (repeat (first|exact ownsS_bot|refine OwnsS.put ?_ rfl|refine OwnsS.setb ?_ (by first|exact ownsX_nil|exact ownsX_cons (ownsX_no rfl) ownsX_nil|exact ownsX_cons (ownsX_no rfl) (ownsX_cons (ownsX_no rfl) ownsX_nil)|assumption)))):p:=h
theorem kn0 {p:Prop} (h:p:=by (repeat (first|exact kn_bot|refine kn_put ?_|refine kn_setb ?_|refine kn_setm ?_))):p:=h
theorem sbrF {p:Prop} (h:p:=by (repeat (first|exact SubR.bot|((with_reducible refine SubR.isp ?_);refine SubR.put ?_ (by exact rq0))|((with_reducible refine SubR.isb ?_);refine SubR.setb ?_ rfl rfl (by first|exact rq_fn1 rfl|exact rl0))))):p:=h
theorem ren0 {p:Prop} (h:p:=by (repeat (first|exact RenL.nil|exact RenB.nil|exact RenMs.nil|exact RenMs.cons _ _ _ _ _ (RenM.low (dM_low _)) RenMs.nil|refine RenB.cons _ _ _ _ _ ?_ ?_|exact RenL.low (dC_low _)|refine RenL.cons ?_ ?_|exact Ren.ptr _ _ (by first|(simp [ResIds];done)|(simp [ResIds,dG,dMs];done)|(simp [ResIds,dG,dMs,crG,crM];done)|(simp [ResIds,dG,dMs,jG];done))|exact Ren.mref _ (by first|(simp [ResIds];done)|(simp [ResIds,dG,dMs];done)|(simp [ResIds,dG,dMs,crG,crM];done)|(simp [ResIds,dG,dMs,jG];done))|exact Ren.msl _ _ _ _ (by first|(simp [ResIds];done)|(simp [ResIds,dG,dMs];done)|(simp [ResIds,dG,dMs,crG,crM];done)|(simp [ResIds,dG,dMs,jG];done))|exact Ren.low _ (Low.val _)|exact Ren.low _ (low_pputs _)|exact Ren.low _ (psec_low _)|exact RenL.low (by assumption)|refine ren_agg ?_|refine ren_fn ?_|refine ren_sl ?_))):p:=h
theorem sbr0 {p:Prop} (h:p:=by (repeat (first|exact SubR.bot|((with_reducible refine SubR.isp ?_);refine SubR.put ?_ (by exact rq0))|((with_reducible refine SubR.isb ?_);refine SubR.setb ?_ rfl rfl (by exact rl0))|((with_reducible refine SubR.ism ?_);refine SubR.setm ?_ rfl rfl (by (first|exact ⟨rfl,rfl,rfl,rfl,rfl⟩|exact RenM.low (by first|assumption|exact hlowm _|exact hlowm _ _))))))):p:=h
structure Hold (q:Prop):Prop where
 out:q
theorem wk {p q:Prop} (k:q) (h:Hold q→p:=by intro hHold;(repeat (first|(with_reducible first|refine PW.seq ?_|refine PW.block ?_|refine PW.skip ?_|refine PW.exit ?_|refine PW.ret ?_|refine thenP ?_|refine thenP_exit ?_|refine thenP_ret ?_|refine blockP ?_|refine blockP_exit ?_|refine blockP_ret ?_|refine loopP_exit ?_|refine loopP_ret ?_|refine loopU_exit ?_|refine loopU_ret ?_)|((with_reducible refine PWops.idd ?_);first|(first|refine PWops.cvI rfl rfl rfl rfl (by (first|omega|(dsimp only;omega))) (by (first|omega|(dsimp only;omega))) rfl ?_|refine PWops.stepA rfl ?_|refine PWops.doneI rfl ?_|refine PWops.boolK true rfl rfl rfl rfl (by (first|rfl|assumption|(simp only [decide_eq_true_eq,decide_eq_false_iff_not,bne_iff_ne,beq_iff_eq,beq_eq_false_iff_ne,bne_eq_false_iff_eq,ne_eq];omega))) rfl ?_|refine PWops.boolK false rfl rfl rfl rfl (by (first|rfl|assumption|(simp only [decide_eq_true_eq,decide_eq_false_iff_not,bne_iff_ne,beq_iff_eq,beq_eq_false_iff_ne,bne_eq_false_iff_eq,ne_eq];omega))) rfl ?_|refine PWops.fitsK rfl rfl rfl rfl (by (first|omega|(dsimp only;omega))) (by (first|omega|(dsimp only;omega))) rfl ?_|refine PWops.remK rfl rfl rfl rfl (by (first|omega|(dsimp only;omega))) rfl ?_|refine PWops.quoK rfl rfl rfl rfl (by (first|omega|(dsimp only;omega))) rfl ?_|refine PWops.app rfl rfl rfl rfl rfl rfl rfl rfl (by (first|omega|(dsimp only;omega))) (by (first|omega|(dsimp only;omega))) (by first|rfl|exact secL_one _|exact putL_one _|exact one_pint _|exact one_pstr _|exact one_pbyte _|exact one_pattrs _) ?_|refine PWops.app0 rfl rfl rfl rfl rfl rfl rfl rfl (by (first|omega|(dsimp only;omega))) (by (first|omega|(dsimp only;omega))) (by first|rfl|exact secL_one _|exact putL_one _|exact one_pint _|exact one_pstr _|exact one_pbyte _|exact one_pattrs _) ?_|refine PWops.idx1 rfl rfl rfl rfl rfl rfl rfl rfl (by (first|omega|(dsimp only;omega))) ?_|refine PWops.idx rfl rfl rfl rfl rfl rfl rfl rfl (by (first|omega|(dsimp only;omega))) ?_|refine PWops.ld rfl rfl rfl rfl rfl rfl rfl (by assumption) rfl ?_|refine PWops.ldA rfl rfl rfl rfl rfl rfl (by (first|omega|(dsimp only;omega))) (by assumption) ?_|refine PWops.str rfl rfl rfl rfl rfl rfl rfl rfl rfl rfl rfl ?_)|(first|refine PWops.arU rfl rfl rfl rfl rfl rfl ?_|refine PWops.boxA rfl rfl rfl rfl rfl (by (first|rfl|exact secL_one _|exact dcellL_one _|exact putL_one _|exact one_map (fun _=>rfl) _)) (by (first|rfl|exact secL_bare _|exact dcellL_bare _|exact putL_bare _|exact bare_map (fun _=>rfl) _)) ?_|refine PWops.litA rfl rfl rfl rfl rfl rfl rfl (by (first|rfl|exact secL_len _|exact dcellL_len _|exact putL_len _|exact len_map (by assumption)|exact len_map rfl)) rfl rfl rfl (by (first|rfl|exact secL_one _|exact dcellL_one _|exact putL_one _|exact one_map (fun _=>rfl) _)) (by (first|rfl|exact secL_bare _|exact dcellL_bare _|exact putL_bare _|exact bare_map (fun _=>rfl) _)) ?_|refine PWops.shlK rfl rfl rfl rfl rfl rfl (by (first|omega|(dsimp only;omega)|decide)) ?_|refine PWops.shrK rfl rfl rfl rfl rfl rfl (by (first|omega|(dsimp only;omega)|decide)) ?_|refine PWops.ldBC rfl rfl rfl rfl rfl rfl rfl rfl (by (first|exact secL_len|exact dcellL_len|exact putL_len|(intro;rfl))) (by (first|omega|(dsimp only;omega))) (by (first|rfl|exact dcellL_64 _)) rfl ?_|refine PWops.ldRB rfl rfl rfl rfl rfl rfl (by (first|exact secL_len|exact dcellL_len|exact putL_len|(intro;rfl))) (by (first|omega|(dsimp only;omega))) (by (first|exact secL_bare|exact dcellL_bare|exact putL_bare|(intro;rfl))) ?_|refine PWops.ldSec rfl rfl rfl rfl rfl rfl rfl (by first|with_reducible rfl|with_reducible exact dC_flat _) (by rfl) (by (first|omega|(dsimp only;omega))) ?_|refine PWops.ldBR rfl rfl rfl rfl rfl rfl rfl (by (first|exact secL_len|exact dcellL_len|exact putL_len|(intro;rfl))) (by (first|omega|(dsimp only;omega))) (by (first|exact secL_bare _|exact dcellL_bare _|exact putL_bare _|rfl)) ?_|refine PWops.lkp rfl rfl rfl rfl rfl rfl rfl rfl rfl rfl rfl (by assumption) ?_|refine PWops.ldAll rfl rfl rfl rfl rfl rfl rfl (by (first|rfl|exact secL_len _|exact dcellL_len _|exact putL_len _|exact len_map (by assumption)|exact len_map rfl)) (by (first|rfl|exact secL_bare _|exact dcellL_bare _|exact putL_bare _|exact bare_map (fun _=>rfl) _)) ?_|refine PWops.stAll rfl rfl rfl rfl rfl rfl rfl rfl rfl (by (first|rfl|exact secL_len _|exact dcellL_len _|exact putL_len _|exact len_map (by assumption)|exact len_map rfl)) (by (first|rfl|exact secL_len _|exact dcellL_len _|exact putL_len _|exact len_map (by assumption)|exact len_map rfl)) (by (first|rfl|exact secL_one _|exact dcellL_one _|exact putL_one _|exact one_map (fun _=>rfl) _)) (by (first|rfl|exact secL_bare _|exact dcellL_bare _|exact putL_bare _|exact bare_map (fun _=>rfl) _)) ?_|refine PWops.idxM rfl rfl rfl rfl rfl rfl rfl rfl (by (first|omega|(dsimp only;omega))) ?_|refine PWops.idxP1 rfl rfl rfl rfl rfl rfl rfl rfl (by (first|omega|(dsimp only;omega))) ?_|refine PWops.idxP rfl rfl rfl rfl rfl rfl rfl rfl (by (first|omega|(dsimp only;omega))) ?_|(refine PWops.call rfl rfl rfl (by assumption) ?_)|(refine PWops.callR rfl rfl (by assumption) (by (first|exact trivial|exact ⟨⟨rfl,rfl⟩,trivial⟩|exact ⟨⟨rfl,rfl⟩,⟨rfl,rfl⟩,trivial⟩|exact ⟨⟨rfl,rfl⟩,⟨rfl,rfl⟩,⟨rfl,rfl⟩,trivial⟩|exact ⟨⟨rfl,rfl⟩,⟨rfl,rfl⟩,⟨rfl,rfl⟩,⟨rfl,rfl⟩,trivial⟩|exact ⟨⟨rfl,rfl⟩,⟨rfl,rfl⟩,⟨rfl,rfl⟩,⟨rfl,rfl⟩,⟨rfl,rfl⟩,trivial⟩|exact ⟨⟨rfl,rfl⟩,⟨rfl,rfl⟩,⟨rfl,rfl⟩,⟨rfl,rfl⟩,⟨rfl,rfl⟩,⟨rfl,rfl⟩,trivial⟩|exact ⟨⟨rfl,rfl⟩,⟨rfl,rfl⟩,⟨rfl,rfl⟩,⟨rfl,rfl⟩,⟨rfl,rfl⟩,⟨rfl,rfl⟩,⟨rfl,rfl⟩,trivial⟩|exact ⟨⟨rfl,rfl⟩,⟨rfl,rfl⟩,⟨rfl,rfl⟩,⟨rfl,rfl⟩,⟨rfl,rfl⟩,⟨rfl,rfl⟩,⟨rfl,rfl⟩,⟨rfl,rfl⟩,trivial⟩)) (by (first|exact trivial|exact ⟨⟨rfl,rfl⟩,trivial⟩|exact ⟨⟨rfl,rfl⟩,⟨rfl,rfl⟩,trivial⟩|exact ⟨⟨rfl,rfl⟩,⟨rfl,rfl⟩,⟨rfl,rfl⟩,trivial⟩|exact ⟨⟨rfl,rfl⟩,⟨rfl,rfl⟩,⟨rfl,rfl⟩,⟨rfl,rfl⟩,trivial⟩|exact ⟨⟨rfl,rfl⟩,⟨rfl,rfl⟩,⟨rfl,rfl⟩,⟨rfl,rfl⟩,⟨rfl,rfl⟩,trivial⟩|exact ⟨⟨rfl,rfl⟩,⟨rfl,rfl⟩,⟨rfl,rfl⟩,⟨rfl,rfl⟩,⟨rfl,rfl⟩,⟨rfl,rfl⟩,trivial⟩|exact ⟨⟨rfl,rfl⟩,⟨rfl,rfl⟩,⟨rfl,rfl⟩,⟨rfl,rfl⟩,⟨rfl,rfl⟩,⟨rfl,rfl⟩,⟨rfl,rfl⟩,trivial⟩|exact ⟨⟨rfl,rfl⟩,⟨rfl,rfl⟩,⟨rfl,rfl⟩,⟨rfl,rfl⟩,⟨rfl,rfl⟩,⟨rfl,rfl⟩,⟨rfl,rfl⟩,⟨rfl,rfl⟩,trivial⟩)) rfl (by first|exact .inl rfl|exact .inr (fun _ _=>rfl)) ?_)|(refine PWops.callH rfl rfl (by assumption) (by (first|exact trivial|exact ⟨⟨rfl,rfl⟩,trivial⟩|exact ⟨⟨rfl,rfl⟩,⟨rfl,rfl⟩,trivial⟩|exact ⟨⟨rfl,rfl⟩,⟨rfl,rfl⟩,⟨rfl,rfl⟩,trivial⟩|exact ⟨⟨rfl,rfl⟩,⟨rfl,rfl⟩,⟨rfl,rfl⟩,⟨rfl,rfl⟩,trivial⟩|exact ⟨⟨rfl,rfl⟩,⟨rfl,rfl⟩,⟨rfl,rfl⟩,⟨rfl,rfl⟩,⟨rfl,rfl⟩,trivial⟩|exact ⟨⟨rfl,rfl⟩,⟨rfl,rfl⟩,⟨rfl,rfl⟩,⟨rfl,rfl⟩,⟨rfl,rfl⟩,⟨rfl,rfl⟩,trivial⟩|exact ⟨⟨rfl,rfl⟩,⟨rfl,rfl⟩,⟨rfl,rfl⟩,⟨rfl,rfl⟩,⟨rfl,rfl⟩,⟨rfl,rfl⟩,⟨rfl,rfl⟩,trivial⟩|exact ⟨⟨rfl,rfl⟩,⟨rfl,rfl⟩,⟨rfl,rfl⟩,⟨rfl,rfl⟩,⟨rfl,rfl⟩,⟨rfl,rfl⟩,⟨rfl,rfl⟩,⟨rfl,rfl⟩,trivial⟩)) (by (first|exact trivial|exact ⟨⟨rfl,rfl⟩,trivial⟩|exact ⟨⟨rfl,rfl⟩,⟨rfl,rfl⟩,trivial⟩|exact ⟨⟨rfl,rfl⟩,⟨rfl,rfl⟩,⟨rfl,rfl⟩,trivial⟩|exact ⟨⟨rfl,rfl⟩,⟨rfl,rfl⟩,⟨rfl,rfl⟩,⟨rfl,rfl⟩,trivial⟩|exact ⟨⟨rfl,rfl⟩,⟨rfl,rfl⟩,⟨rfl,rfl⟩,⟨rfl,rfl⟩,⟨rfl,rfl⟩,trivial⟩|exact ⟨⟨rfl,rfl⟩,⟨rfl,rfl⟩,⟨rfl,rfl⟩,⟨rfl,rfl⟩,⟨rfl,rfl⟩,⟨rfl,rfl⟩,trivial⟩|exact ⟨⟨rfl,rfl⟩,⟨rfl,rfl⟩,⟨rfl,rfl⟩,⟨rfl,rfl⟩,⟨rfl,rfl⟩,⟨rfl,rfl⟩,⟨rfl,rfl⟩,trivial⟩|exact ⟨⟨rfl,rfl⟩,⟨rfl,rfl⟩,⟨rfl,rfl⟩,⟨rfl,rfl⟩,⟨rfl,rfl⟩,⟨rfl,rfl⟩,⟨rfl,rfl⟩,⟨rfl,rfl⟩,trivial⟩)) rfl (by first|exact .inl rfl|exact .inr (fun _ _=>rfl)) ?_)|refine PWops.idxZ1 rfl rfl rfl rfl rfl rfl rfl rfl (by (first|omega|(dsimp only;omega))) ?_|refine PWops.idxZ rfl rfl rfl rfl rfl rfl rfl rfl (by (first|omega|(dsimp only;omega))) ?_|refine PWops.ld rfl rfl rfl rfl rfl rfl rfl rfl rfl ?_|refine PWops.slcL rfl rfl rfl rfl rfl rfl rfl rfl (by (first|omega|(dsimp only;omega))) ?_|refine PWops.slcH rfl rfl rfl rfl rfl rfl rfl rfl (by (first|omega|(dsimp only;omega))) ?_|refine PWops.slcRL rfl rfl rfl rfl rfl rfl rfl rfl (by intro;rfl) (by (first|omega|(dsimp only;omega))) ?_|refine PWops.slcRH rfl rfl rfl rfl rfl rfl rfl rfl (by intro;rfl) (by (first|omega|(dsimp only;omega))) ?_|refine PWops.slcM rfl rfl rfl rfl rfl rfl rfl rfl rfl (by (first|omega|(dsimp only;omega))) ?_|refine PWops.ldM rfl rfl rfl rfl rfl rfl rfl (by (first|omega|(dsimp only;omega))) rfl ?_|refine PWops.ldR rfl rfl rfl rfl rfl rfl rfl (by (first|exact secL_len|exact dcellL_len|exact putL_len|(intro;rfl))) (by (first|omega|(dsimp only;omega))) rfl rfl ?_|refine PWops.ldRA rfl rfl rfl rfl rfl rfl (by intro;rfl) (by (first|omega|(dsimp only;omega))) rfl ?_|refine PWops.slcP rfl rfl rfl rfl rfl rfl rfl rfl rfl (by decide) ?_|refine PWops.idxE1 rfl rfl rfl rfl rfl rfl rfl rfl (by (first|omega|(dsimp only;omega))) ?_|refine PWops.ldG rfl rfl rfl rfl rfl rfl (by (first|rfl|exact secL_len _|exact dcellL_len _|exact putL_len _|exact len_map (by assumption)|exact len_map rfl)) (by (first|rfl|exact secL_bare _|exact dcellL_bare _|exact putL_bare _|exact bare_map (fun _=>rfl) _)) ?_|refine PWops.ldMB rfl rfl rfl rfl rfl rfl rfl rfl (by (first|omega|(dsimp only;omega))) rfl rfl ?_|refine PWops.stMB rfl rfl rfl rfl rfl rfl rfl rfl rfl rfl (by (first|omega|(dsimp only;omega))) ?_|refine PWops.idxV rfl rfl rfl rfl rfl rfl rfl rfl (by (first|omega|(dsimp only;omega))) rfl ?_))|(first|((with_reducible refine PW.idd ?_);(first|refine PW.region typeTab_ok (by kernel_rfl) ?_|refine PW.draw typeTab_ok (by kernel_rfl) (by kernel_rfl) (by kernel_rfl) ?_|refine PW.condT rfl ?_|refine PW.condF rfl ?_|refine PW.condTe rfl (by assumption) ?_|refine PW.condFe rfl (by assumption) ?_|refine blockP_other (by decide) ?_))|with_reducible refine blockP_other (by decide) ?_)));exact hHold.out):p:=h ⟨k⟩
theorem wg {p q:Prop} (k:q) (h:Hold q→p:=by intro hHold;(repeat ((with_reducible refine PWops.idd ?_);first|(first|refine PWops.cvI rfl rfl rfl rfl (by (first|omega|(dsimp only;omega))) (by (first|omega|(dsimp only;omega))) rfl ?_|refine PWops.stepA rfl ?_|refine PWops.doneI rfl ?_|refine PWops.boolK true rfl rfl rfl rfl (by (first|rfl|assumption|(simp only [decide_eq_true_eq,decide_eq_false_iff_not,bne_iff_ne,beq_iff_eq,beq_eq_false_iff_ne,bne_eq_false_iff_eq,ne_eq];omega))) rfl ?_|refine PWops.boolK false rfl rfl rfl rfl (by (first|rfl|assumption|(simp only [decide_eq_true_eq,decide_eq_false_iff_not,bne_iff_ne,beq_iff_eq,beq_eq_false_iff_ne,bne_eq_false_iff_eq,ne_eq];omega))) rfl ?_|refine PWops.fitsK rfl rfl rfl rfl (by (first|omega|(dsimp only;omega))) (by (first|omega|(dsimp only;omega))) rfl ?_|refine PWops.remK rfl rfl rfl rfl (by (first|omega|(dsimp only;omega))) rfl ?_|refine PWops.quoK rfl rfl rfl rfl (by (first|omega|(dsimp only;omega))) rfl ?_|refine PWops.app rfl rfl rfl rfl rfl rfl rfl rfl (by (first|omega|(dsimp only;omega))) (by (first|omega|(dsimp only;omega))) (by first|rfl|exact secL_one _|exact putL_one _|exact one_pint _|exact one_pstr _|exact one_pbyte _|exact one_pattrs _) ?_|refine PWops.app0 rfl rfl rfl rfl rfl rfl rfl rfl (by (first|omega|(dsimp only;omega))) (by (first|omega|(dsimp only;omega))) (by first|rfl|exact secL_one _|exact putL_one _|exact one_pint _|exact one_pstr _|exact one_pbyte _|exact one_pattrs _) ?_|refine PWops.idx1 rfl rfl rfl rfl rfl rfl rfl rfl (by (first|omega|(dsimp only;omega))) ?_|refine PWops.idx rfl rfl rfl rfl rfl rfl rfl rfl (by (first|omega|(dsimp only;omega))) ?_|refine PWops.ld rfl rfl rfl rfl rfl rfl rfl (by assumption) rfl ?_|refine PWops.ldA rfl rfl rfl rfl rfl rfl (by (first|omega|(dsimp only;omega))) (by assumption) ?_|refine PWops.str rfl rfl rfl rfl rfl rfl rfl rfl rfl rfl rfl ?_)|(first|refine PWops.arU rfl rfl rfl rfl rfl rfl ?_|refine PWops.boxA rfl rfl rfl rfl rfl (by (first|rfl|exact secL_one _|exact dcellL_one _|exact putL_one _|exact one_map (fun _=>rfl) _)) (by (first|rfl|exact secL_bare _|exact dcellL_bare _|exact putL_bare _|exact bare_map (fun _=>rfl) _)) ?_|refine PWops.litA rfl rfl rfl rfl rfl rfl rfl (by (first|rfl|exact secL_len _|exact dcellL_len _|exact putL_len _|exact len_map (by assumption)|exact len_map rfl)) rfl rfl rfl (by (first|rfl|exact secL_one _|exact dcellL_one _|exact putL_one _|exact one_map (fun _=>rfl) _)) (by (first|rfl|exact secL_bare _|exact dcellL_bare _|exact putL_bare _|exact bare_map (fun _=>rfl) _)) ?_|refine PWops.shlK rfl rfl rfl rfl rfl rfl (by (first|omega|(dsimp only;omega)|decide)) ?_|refine PWops.shrK rfl rfl rfl rfl rfl rfl (by (first|omega|(dsimp only;omega)|decide)) ?_|refine PWops.ldBC rfl rfl rfl rfl rfl rfl rfl rfl (by (first|exact secL_len|exact dcellL_len|exact putL_len|(intro;rfl))) (by (first|omega|(dsimp only;omega))) (by (first|rfl|exact dcellL_64 _)) rfl ?_|refine PWops.ldRB rfl rfl rfl rfl rfl rfl (by (first|exact secL_len|exact dcellL_len|exact putL_len|(intro;rfl))) (by (first|omega|(dsimp only;omega))) (by (first|exact secL_bare|exact dcellL_bare|exact putL_bare|(intro;rfl))) ?_|refine PWops.ldSec rfl rfl rfl rfl rfl rfl rfl (by first|with_reducible rfl|with_reducible exact dC_flat _) (by rfl) (by (first|omega|(dsimp only;omega))) ?_|refine PWops.ldBR rfl rfl rfl rfl rfl rfl rfl (by (first|exact secL_len|exact dcellL_len|exact putL_len|(intro;rfl))) (by (first|omega|(dsimp only;omega))) (by (first|exact secL_bare _|exact dcellL_bare _|exact putL_bare _|rfl)) ?_|refine PWops.lkp rfl rfl rfl rfl rfl rfl rfl rfl rfl rfl rfl (by assumption) ?_|refine PWops.ldAll rfl rfl rfl rfl rfl rfl rfl (by (first|rfl|exact secL_len _|exact dcellL_len _|exact putL_len _|exact len_map (by assumption)|exact len_map rfl)) (by (first|rfl|exact secL_bare _|exact dcellL_bare _|exact putL_bare _|exact bare_map (fun _=>rfl) _)) ?_|refine PWops.stAll rfl rfl rfl rfl rfl rfl rfl rfl rfl (by (first|rfl|exact secL_len _|exact dcellL_len _|exact putL_len _|exact len_map (by assumption)|exact len_map rfl)) (by (first|rfl|exact secL_len _|exact dcellL_len _|exact putL_len _|exact len_map (by assumption)|exact len_map rfl)) (by (first|rfl|exact secL_one _|exact dcellL_one _|exact putL_one _|exact one_map (fun _=>rfl) _)) (by (first|rfl|exact secL_bare _|exact dcellL_bare _|exact putL_bare _|exact bare_map (fun _=>rfl) _)) ?_|refine PWops.idxM rfl rfl rfl rfl rfl rfl rfl rfl (by (first|omega|(dsimp only;omega))) ?_|refine PWops.idxP1 rfl rfl rfl rfl rfl rfl rfl rfl (by (first|omega|(dsimp only;omega))) ?_|refine PWops.idxP rfl rfl rfl rfl rfl rfl rfl rfl (by (first|omega|(dsimp only;omega))) ?_|(refine PWops.call rfl rfl rfl (by assumption) ?_)|(refine PWops.callR rfl rfl (by assumption) (by (first|exact trivial|exact ⟨⟨rfl,rfl⟩,trivial⟩|exact ⟨⟨rfl,rfl⟩,⟨rfl,rfl⟩,trivial⟩|exact ⟨⟨rfl,rfl⟩,⟨rfl,rfl⟩,⟨rfl,rfl⟩,trivial⟩|exact ⟨⟨rfl,rfl⟩,⟨rfl,rfl⟩,⟨rfl,rfl⟩,⟨rfl,rfl⟩,trivial⟩|exact ⟨⟨rfl,rfl⟩,⟨rfl,rfl⟩,⟨rfl,rfl⟩,⟨rfl,rfl⟩,⟨rfl,rfl⟩,trivial⟩|exact ⟨⟨rfl,rfl⟩,⟨rfl,rfl⟩,⟨rfl,rfl⟩,⟨rfl,rfl⟩,⟨rfl,rfl⟩,⟨rfl,rfl⟩,trivial⟩|exact ⟨⟨rfl,rfl⟩,⟨rfl,rfl⟩,⟨rfl,rfl⟩,⟨rfl,rfl⟩,⟨rfl,rfl⟩,⟨rfl,rfl⟩,⟨rfl,rfl⟩,trivial⟩|exact ⟨⟨rfl,rfl⟩,⟨rfl,rfl⟩,⟨rfl,rfl⟩,⟨rfl,rfl⟩,⟨rfl,rfl⟩,⟨rfl,rfl⟩,⟨rfl,rfl⟩,⟨rfl,rfl⟩,trivial⟩)) (by (first|exact trivial|exact ⟨⟨rfl,rfl⟩,trivial⟩|exact ⟨⟨rfl,rfl⟩,⟨rfl,rfl⟩,trivial⟩|exact ⟨⟨rfl,rfl⟩,⟨rfl,rfl⟩,⟨rfl,rfl⟩,trivial⟩|exact ⟨⟨rfl,rfl⟩,⟨rfl,rfl⟩,⟨rfl,rfl⟩,⟨rfl,rfl⟩,trivial⟩|exact ⟨⟨rfl,rfl⟩,⟨rfl,rfl⟩,⟨rfl,rfl⟩,⟨rfl,rfl⟩,⟨rfl,rfl⟩,trivial⟩|exact ⟨⟨rfl,rfl⟩,⟨rfl,rfl⟩,⟨rfl,rfl⟩,⟨rfl,rfl⟩,⟨rfl,rfl⟩,⟨rfl,rfl⟩,trivial⟩|exact ⟨⟨rfl,rfl⟩,⟨rfl,rfl⟩,⟨rfl,rfl⟩,⟨rfl,rfl⟩,⟨rfl,rfl⟩,⟨rfl,rfl⟩,⟨rfl,rfl⟩,trivial⟩|exact ⟨⟨rfl,rfl⟩,⟨rfl,rfl⟩,⟨rfl,rfl⟩,⟨rfl,rfl⟩,⟨rfl,rfl⟩,⟨rfl,rfl⟩,⟨rfl,rfl⟩,⟨rfl,rfl⟩,trivial⟩)) rfl (by first|exact .inl rfl|exact .inr (fun _ _=>rfl)) ?_)|(refine PWops.callH rfl rfl (by assumption) (by (first|exact trivial|exact ⟨⟨rfl,rfl⟩,trivial⟩|exact ⟨⟨rfl,rfl⟩,⟨rfl,rfl⟩,trivial⟩|exact ⟨⟨rfl,rfl⟩,⟨rfl,rfl⟩,⟨rfl,rfl⟩,trivial⟩|exact ⟨⟨rfl,rfl⟩,⟨rfl,rfl⟩,⟨rfl,rfl⟩,⟨rfl,rfl⟩,trivial⟩|exact ⟨⟨rfl,rfl⟩,⟨rfl,rfl⟩,⟨rfl,rfl⟩,⟨rfl,rfl⟩,⟨rfl,rfl⟩,trivial⟩|exact ⟨⟨rfl,rfl⟩,⟨rfl,rfl⟩,⟨rfl,rfl⟩,⟨rfl,rfl⟩,⟨rfl,rfl⟩,⟨rfl,rfl⟩,trivial⟩|exact ⟨⟨rfl,rfl⟩,⟨rfl,rfl⟩,⟨rfl,rfl⟩,⟨rfl,rfl⟩,⟨rfl,rfl⟩,⟨rfl,rfl⟩,⟨rfl,rfl⟩,trivial⟩|exact ⟨⟨rfl,rfl⟩,⟨rfl,rfl⟩,⟨rfl,rfl⟩,⟨rfl,rfl⟩,⟨rfl,rfl⟩,⟨rfl,rfl⟩,⟨rfl,rfl⟩,⟨rfl,rfl⟩,trivial⟩)) (by (first|exact trivial|exact ⟨⟨rfl,rfl⟩,trivial⟩|exact ⟨⟨rfl,rfl⟩,⟨rfl,rfl⟩,trivial⟩|exact ⟨⟨rfl,rfl⟩,⟨rfl,rfl⟩,⟨rfl,rfl⟩,trivial⟩|exact ⟨⟨rfl,rfl⟩,⟨rfl,rfl⟩,⟨rfl,rfl⟩,⟨rfl,rfl⟩,trivial⟩|exact ⟨⟨rfl,rfl⟩,⟨rfl,rfl⟩,⟨rfl,rfl⟩,⟨rfl,rfl⟩,⟨rfl,rfl⟩,trivial⟩|exact ⟨⟨rfl,rfl⟩,⟨rfl,rfl⟩,⟨rfl,rfl⟩,⟨rfl,rfl⟩,⟨rfl,rfl⟩,⟨rfl,rfl⟩,trivial⟩|exact ⟨⟨rfl,rfl⟩,⟨rfl,rfl⟩,⟨rfl,rfl⟩,⟨rfl,rfl⟩,⟨rfl,rfl⟩,⟨rfl,rfl⟩,⟨rfl,rfl⟩,trivial⟩|exact ⟨⟨rfl,rfl⟩,⟨rfl,rfl⟩,⟨rfl,rfl⟩,⟨rfl,rfl⟩,⟨rfl,rfl⟩,⟨rfl,rfl⟩,⟨rfl,rfl⟩,⟨rfl,rfl⟩,trivial⟩)) rfl (by first|exact .inl rfl|exact .inr (fun _ _=>rfl)) ?_)|refine PWops.idxZ1 rfl rfl rfl rfl rfl rfl rfl rfl (by (first|omega|(dsimp only;omega))) ?_|refine PWops.idxZ rfl rfl rfl rfl rfl rfl rfl rfl (by (first|omega|(dsimp only;omega))) ?_|refine PWops.ld rfl rfl rfl rfl rfl rfl rfl rfl rfl ?_|refine PWops.slcL rfl rfl rfl rfl rfl rfl rfl rfl (by (first|omega|(dsimp only;omega))) ?_|refine PWops.slcH rfl rfl rfl rfl rfl rfl rfl rfl (by (first|omega|(dsimp only;omega))) ?_|refine PWops.slcRL rfl rfl rfl rfl rfl rfl rfl rfl (by intro;rfl) (by (first|omega|(dsimp only;omega))) ?_|refine PWops.slcRH rfl rfl rfl rfl rfl rfl rfl rfl (by intro;rfl) (by (first|omega|(dsimp only;omega))) ?_|refine PWops.slcM rfl rfl rfl rfl rfl rfl rfl rfl rfl (by (first|omega|(dsimp only;omega))) ?_|refine PWops.ldM rfl rfl rfl rfl rfl rfl rfl (by (first|omega|(dsimp only;omega))) rfl ?_|refine PWops.ldR rfl rfl rfl rfl rfl rfl rfl (by (first|exact secL_len|exact dcellL_len|exact putL_len|(intro;rfl))) (by (first|omega|(dsimp only;omega))) rfl rfl ?_|refine PWops.ldRA rfl rfl rfl rfl rfl rfl (by intro;rfl) (by (first|omega|(dsimp only;omega))) rfl ?_|refine PWops.slcP rfl rfl rfl rfl rfl rfl rfl rfl rfl (by decide) ?_|refine PWops.idxE1 rfl rfl rfl rfl rfl rfl rfl rfl (by (first|omega|(dsimp only;omega))) ?_|refine PWops.ldG rfl rfl rfl rfl rfl rfl (by (first|rfl|exact secL_len _|exact dcellL_len _|exact putL_len _|exact len_map (by assumption)|exact len_map rfl)) (by (first|rfl|exact secL_bare _|exact dcellL_bare _|exact putL_bare _|exact bare_map (fun _=>rfl) _)) ?_|refine PWops.ldMB rfl rfl rfl rfl rfl rfl rfl rfl (by (first|omega|(dsimp only;omega))) rfl rfl ?_|refine PWops.stMB rfl rfl rfl rfl rfl rfl rfl rfl rfl rfl (by (first|omega|(dsimp only;omega))) ?_|refine PWops.idxV rfl rfl rfl rfl rfl rfl rfl rfl (by (first|omega|(dsimp only;omega))) rfl ?_)));(repeat (first|(with_reducible first|refine PW.seq ?_|refine PW.block ?_|refine PW.skip ?_|refine PW.exit ?_|refine PW.ret ?_|refine thenP ?_|refine thenP_exit ?_|refine thenP_ret ?_|refine blockP ?_|refine blockP_exit ?_|refine blockP_ret ?_|refine loopP_exit ?_|refine loopP_ret ?_|refine loopU_exit ?_|refine loopU_ret ?_)|(first|((with_reducible refine PW.idd ?_);(first|refine PW.condT rfl ?_|refine PW.condF rfl ?_|refine PW.condTe rfl (by assumption) ?_|refine PW.condFe rfl (by assumption) ?_|refine blockP_other (by decide) ?_))|with_reducible refine blockP_other (by decide) ?_)));exact hHold.out):p:=h ⟨k⟩
theorem sb {p:Prop} (h:p:=by (refine Sub.same ?_;(repeat (first|exact SubR.bot|((with_reducible refine SubR.isp ?_);refine SubR.put ?_ (by exact rq0))|((with_reducible refine SubR.isb ?_);refine SubR.setb ?_ rfl rfl (by exact rl0))|((with_reducible refine SubR.ism ?_);refine SubR.setm ?_ rfl rfl (by (first|exact ⟨rfl,rfl,rfl,rfl,rfl⟩|exact RenM.low (by first|assumption|exact hlowm _|exact hlowm _ _)))))))):p:=h
theorem lw {p:Prop} (h:p:=by (first|exact low_mapI|exact low_mapS|exact low_mapB|assumption|exact hlow _|exact hlow _ _|exact Low.agg _ (low_map (fun _=>Low.val _) _)|(simp [low_pu32,low_pu64,low_val,low_nilsl,low_sl,low_ep,low_agg,low_tup,low_fn,low_pint,low_pstr,low_pbool,low_pints,low_pstrs,low_pbyte,low_pbytes,hlow];done)|(simp [low_pu32,low_pu64,low_val,low_nilsl,low_sl,low_ep,low_agg,low_tup,low_fn,low_pint,low_pstr,low_pbool,low_pints,low_pstrs,low_pbyte,low_pbytes];done)|simp [low_pu32,low_pu64,low_val,low_nilsl,low_sl,low_ep,low_agg,low_tup,low_fn,low_pint,low_pstr,low_pbool,low_pints,low_pstrs,low_pbyte,low_pbytes,low_pattrs,low_pdefs,low_pschema,low_pentry])):p:=h
abbrev Come:=Option (List (List PV))
noncomputable def offI (Φ:Imm) (ω:Nat→Option Who):Imm:=freshI (fun _ _=>none) Φ ω
theorem offI_some {Φ:Imm} {ω:Nat→Option Who} {b o:Nat} {u:Value} : offI Φ ω b o=some u↔(∀p,ω b≠some p)∧Φ b o=some u:=by
 unfold offI
 constructor
 ·intro h
  by_cases hh:∃p,ω b=some p
  ·rw [freshI_own hh] at h;cases h
  ·have:∀p,ω b≠some p:=fun p e=>hh ⟨p,e⟩
   rw [freshI_eq this] at h
   exact ⟨this,h⟩
 ·rintro ⟨h1,h2⟩
  rw [freshI_eq h1];exact h2
structure ItEnv where
 J:Come→(Nat→Prop)→Imm→World→Prop
 step:∀{κ:Come} {I I' : Nat→Prop} {K K' : Imm} {w w' : World},J κ I K w→Kept (fun b=>b < w.heap.size∧¬I b) w w'→(∀g,I' g→I g∨w.heap.size≤g)→(∀b o u,K b o=some u→I b→K' b o=some u)→(∀b o u,K' b o=some u→w'.cell? ⟨b,o,none⟩=some u)→J κ I' K' w'
def YOK (P:Program) (E:ItEnv) (l:Nat) (A:List (List PV)→Prop) (Φe:Imm) (Lb:Nat→Prop) (B0:Nat):Prop:=
 ∀(pre:List (List PV)) (x:List PV) (I:Nat→Prop) (K:Imm) (w1:World) (vs:List Value),A (pre ++ [x])→E.J (some pre) I K w1→(∀g,I g→(B0≤g∨Lb g)∧g < w1.heap.size)→(∀g,Lb g→I g)→(∀b o u,K b o=some u→w1.cell? ⟨b,o,none⟩=some u)→(∀b o,b < B0→¬Lb b→K b o=Φe b o)→(∀b o u,B0≤b→K b o=some u→I b) →
  GlobOK K→RepL K mu0 x vs→YieldAt (FW none) 0 P l vs.toArray w1 fun e w2=>∃b:Bool,e = .returned (.bool b)∧E.J (if b then some (pre ++ [x]) else none) I K w2∧Kept (fun g=>I g∨(g < B0∧¬Mix Φe g)) w1 w2∧(∀b o u,K b o=some u→w2.cell? ⟨b,o,none⟩=some u)
def LentB (μ:Nat→Option Nat) (ids:List Nat) (g:Nat):Prop:=∃id∈ids,μ id=some g
def ItSpecG (P:Program) (f:FuncId) (caps:List PV) (given:List (Nat×List PV)) (gm:List (Nat×PMap)) (A S:List (List PV)→Prop):Prop:=
 callB P f=true∧∀(E:ItEnv) (l:Nat) (Φe:Imm) (μ:Nat→Option Nat) (ω:Nat→Option Who) (w:World) (vs:List Value),(∀b o u,Φe b o=some u→w.cell? ⟨b,o,none⟩=some u)→GlobOK Φe→RepL Φe μ caps vs →
  (∀x∈given,BoxAt (fun _=>True) Φe μ ω w x.1 x.2)→(∀x∈gm,MapAt (fun _=>True) Φe μ ω w x.1 x.2)→YOK P E l A Φe (LentB μ (ResIds given gm)) w.heap.size→E.J (some []) (LentB μ (ResIds given gm)) Φe w →
  Calls P f (#[.func (.yield l) #[] #[]] ++ vs.toArray) w fun e w' => ∃v κ K I,e = .returned v∧(∀xs,κ=some xs→S xs)∧E.J κ I K w'∧(∀g,LentB μ (ResIds given gm) g→I g)∧(∀b o u,K b o=some u→w'.cell? ⟨b,o,none⟩=some u) ∧
   (∀b o,b < w.heap.size→¬LentB μ (ResIds given gm) b→K b o=Φe b o)∧(∀b o u,w.heap.size≤b→K b o=some u→I b)∧GlobOK K∧(∀x∈given,BoxAt (fun _=>True) K μ ω w' x.1 x.2)∧(∀x∈gm,MapAt (fun _=>True) K μ ω w' x.1 x.2)
def RelJ (E:ItEnv) (Lb:Nat→Prop) (Φ0:Ent) (W:World) (M:Nat) (κ:Come) (σ:PS) (a:Act) (w:World):Prop:=
 ∃Φ1 W1 Φ μ ω I,Later Φ0 W Φ1 W1∧RelG Φ1 W1 M Φ μ ω σ a w∧E.J κ I (offI Φ ω) w∧(∀g,I g→(W.heap.size≤g∨Lb g)∧g < w.heap.size)∧(∀g p,ω g=some p→I g)∧(∀b o u,W.heap.size≤b→Φ b o=some u→I b)∧(∀b o,b < W.heap.size→¬Lb b→Φ b o=Φ0.imm b o)∧(∀m∈Φ1.marks,I m)∧(∀g,Lb g→I g)
end
section
open Go.RowKit
variable {E:ItEnv} {Lb:Nat→Prop} {Φ0:Ent} {W:World} {M:Nat} {κ:Come} {σ:PS} {a:Act} {w:World} {P:Program} {T:Tab}
theorem RelJ.go (h:RelJ E Lb Φ0 W M κ σ a w):∃Φf:Ent,Φf.round=Φ0.round∧Rel Φf w M σ a w∧∀Φ2 W2 σ' a' w',Later Φf w Φ2 W2→Rel Φ2 W2 M σ' a' w'→RelJ E Lb Φ0 W M κ σ' a' w':=by
 obtain ⟨Φ1,W1,Φ,μ,ω,I,hl,hg,hJ,h1,h2,h3,h4,h5,h6⟩:=h
 refine ⟨hg.freshE Φ1.mu,hl.round,⟨Φ,μ,ω,hg.fresh0 hg.gmu hg.kmu⟩,?_⟩
 rintro Φ2 W2 σ' a' w' hl2 ⟨Φ',μ',ω',k⟩
 have hs:=hg.since hl2 k
 obtain ⟨Φ3,W3,hl3,em,k3⟩:=hg.unfresh hl2 k
 have hWw:W.heap.size≤w.heap.size:=Nat.le_trans hl.kept.size hg.below.size
 have hww:w.heap.size≤w'.heap.size:=hs.kept.size
 have hωn:∀b,b < W.heap.size→¬Lb b→∀p,ω b≠some p:=fun b hb hnl p e=>by
  rcases (h1 b (h2 b p e)).1 with h' | h'
  ·omega
  ·exact hnl h'
 refine ⟨Φ3,W3,Φ',μ',ω',fun g=>I g∨(w.heap.size≤g∧g < w'.heap.size),hl.trans hl3,k3,?_,fun g hg' => ?_,fun g p e=>?_,fun b o u hb e=>?_,fun b o hb hnl=>?_,fun m hm=>?_,fun g hg' => .inl (h6 g hg')⟩
 ·refine E.step hJ (hs.kept.mono fun b hb=>⟨hb.1,fun p e=>hb.2 (h2 b p e)⟩) (fun g hg' => hg'.imp id (fun h=>h.1)) (fun b o u e hI=>?_) (fun b o u e=>k.imm b o u (offI_some.1 e).2)
  obtain ⟨e1,e2⟩:=offI_some.1 e
  have hb:=(h1 b hI).2
  refine offI_some.2 ⟨fun p ep=>?_,by rw [hs.imm b o hb e1];exact e2⟩
  rcases hs.own b p ep with ⟨q,hq⟩|hq
  ·exact e1 q hq
  ·omega
 ·rcases hg' with h' | h'
  ·exact ⟨(h1 g h').1,Nat.lt_of_lt_of_le (h1 g h').2 hww⟩
  ·exact ⟨.inl (Nat.le_trans hWw h'.1),h'.2⟩
 ·rcases hs.own g p e with ⟨q,hq⟩|hq
  ·exact .inl (h2 g q hq)
  ·exact .inr ⟨hq,k.lt g p e⟩
 ·by_cases hlt:b < w.heap.size
  ·left
   by_cases hω:∃p,ω b=some p
   ·obtain ⟨p,hp⟩:=hω;exact h2 b p hp
   ·rw [hs.imm b o hlt (fun p e=>hω ⟨p,e⟩)] at e
    exact h3 b o u hb e
  ·exact .inr ⟨Nat.le_of_not_lt hlt,RelG.fresh k e⟩
 ·rw [hs.imm b o (Nat.lt_of_lt_of_le hb hWw) (hωn b hb hnl)]
  exact h4 b o hb hnl
 ·rw [em] at hm
  obtain ⟨ms,e1,-,k1⟩:=hl2.marks
  rw [e1] at hm
  rcases List.mem_append.1 hm with hm|hm
  ·exact .inr ⟨(k1 m hm).1,Nat.lt_of_lt_of_le (k1 m hm).2.1.1 k.below.size⟩
  ·exact .inl (h5 m hm)
theorem RelJ.sub {σ' : PS} (h:RelJ E Lb Φ0 W M κ σ a w) (hs:Sub M σ σ'):RelJ E Lb Φ0 W M κ σ' a w:=by
 obtain ⟨Φf,-,hr,k⟩:=h.go
 exact k Φf w σ' a w (Later.refl _ _) (hs _ _ _ _ hr)
theorem RelJ.ev (h:RelJ E Lb Φ0 W M κ σ a w) {c:Operand} {v:Value} (hc:pev σ c = .val v):a.eval c=v:=by
 obtain ⟨Φ1,W1,Φ,μ,ω,I,hl,hg,-⟩:=h
 have:=hg.ev c
 rw [hc] at this
 exact this.val_inv.1
def PWJ (E:ItEnv) (Lb:Nat→Prop) (Φ0:Ent) (W:World) (P:Program) (M:Nat) (c:Code) (Q:Exit→PS→Come→Prop) (σ:PS) (κ:Come):Prop:=
 ∀a w,RelJ E Lb Φ0 W M κ σ a w→c.wpIn (FW Φ0.round) 0 P (fun e a' w' => ∃σ' κ',Q e σ' κ'∧RelJ E Lb Φ0 W M κ' σ' a' w') a w
end
section
open Go.RowKit
variable {E:ItEnv} {Lb:Nat→Prop} {Φ0:Ent} {W:World} {M:Nat} {κ:Come} {σ:PS} {a:Act} {w:World} {P:Program} {T:Tab}
variable {Q:Exit→PS→Come→Prop}
theorem PWJ.of_pw {c:Code} (h:PW P M c (fun e σ' => Q e σ' κ) σ):PWJ E Lb Φ0 W P M c Q σ κ:=by
 intro a w hr
 obtain ⟨Φf,e1,hr',k⟩:=hr.go
 have:=h Φf w a w hr'
 rw [e1] at this
 exact wpIn_mono this fun e a' w' ⟨σ',Φ2,W2,hq,hl,hr2⟩=>⟨σ',κ,hq,k Φ2 W2 σ' a' w' hl hr2⟩
theorem PWJ.sub {c:Code} {σ' : PS} (h:PWJ E Lb Φ0 W P M c Q σ' κ) (hs:Sub M σ σ'):PWJ E Lb Φ0 W P M c Q σ κ:=fun a w hr=>h a w (hr.sub hs)
def ThenJ (E:ItEnv) (Lb:Nat→Prop) (Φ0:Ent) (W:World) (P:Program) (M:Nat) (y:Code) (Q:Exit→PS→Come→Prop):Exit→PS→Come→Prop
 | .normal,σ,κ=>PWJ E Lb Φ0 W P M y Q σ κ
 |e,σ,κ=>Q e σ κ
theorem PWJ.seq {x y:Code} (h:PWJ E Lb Φ0 W P M x (ThenJ E Lb Φ0 W P M y Q) σ κ):PWJ E Lb Φ0 W P M (.seq x y) Q σ κ:=by
 intro a w hr
 refine wpIn_seq (wpIn_mono (h a w hr) ?_)
 rintro e a' w' ⟨σ',κ',hq,hr'⟩
 cases e with
 |normal=>exact hq a' w' hr'
 |_=>exact ⟨σ',κ',hq,hr'⟩
def BlockJ (id:Nat) (Q:Exit→PS→Come→Prop):Exit→PS→Come→Prop
 | .exit i,σ,κ=>if i=id then Q .normal σ κ else Q (.exit i) σ κ
 |e,σ,κ=>Q e σ κ
theorem PWJ.block {id:Nat} {c:Code} (h:PWJ E Lb Φ0 W P M c (BlockJ id Q) σ κ):PWJ E Lb Φ0 W P M (.block id c) Q σ κ:=by
 intro a w hr
 refine wpIn_block (wpIn_mono (h a w hr) ?_)
 rintro e a' w' ⟨σ',κ',h1,h2⟩
 cases e with
 |exit i=>
  simp only [BlockJ] at h1
  simp only [Exit.inBlock]
  split at h1
  ·rename_i e;simp only [e,if_true];exact ⟨σ',κ',h1,h2⟩
  ·rename_i e;simp only [e,if_false];exact ⟨σ',κ',h1,h2⟩
 |_=>exact ⟨σ',κ',h1,h2⟩
theorem PWJ.cond {c:Operand} {x y:Code} {b:Bool} (hc:pev σ c = .val (.bool b)) (h:PWJ E Lb Φ0 W P M (if b then x else y) Q σ κ):PWJ E Lb Φ0 W P M (.cond c x y) Q σ κ:=
 fun a w hr=>wpIn_cond (hr.ev hc) (h a w hr)
theorem PWJ.skip (h:Q .normal σ κ):PWJ E Lb Φ0 W P M .skip Q σ κ:=PWJ.of_pw (PW.skip h)
theorem PWJ.ret (h:Q .ret σ κ):PWJ E Lb Φ0 W P M .ret Q σ κ:=PWJ.of_pw (PW.ret h)
theorem PWJ.exit {i:Nat} (h:Q (.exit i) σ κ):PWJ E Lb Φ0 W P M (.exit i) Q σ κ:=PWJ.of_pw (PW.exit h)
def LoopJ {α:Type} (M:Nat) (st:α→PS) (kf:α→Come) (I:α→Prop) (m:α→Nat) (x:α) (Q:Exit→PS→Come→Prop):Exit→PS→Come→Prop
 | .normal,σ,κ=>∃y,I y∧m y < m x∧Sub M σ (st y)∧κ=kf y
 |e,σ,κ=>Q e σ κ
theorem PWJ.loop {α:Type} {c:Code} (st:α→PS) (kf:α→Come) (I:α→Prop) (m:α→Nat) (x0:α) (hi:I x0) (h0:Sub M σ (st x0)) (hk:κ=kf x0) (round:∀x,I x→PWJ E Lb Φ0 W P M c (LoopJ M st kf I m x Q) (st x) (kf x)):PWJ E Lb Φ0 W P M (.loop c) Q σ κ:=by
 intro a w hr b k cs hro hb hroom
 have key:∀n x a w,m x=n→I x→RelJ E Lb Φ0 W M (kf x) (st x) a w→∃e a' w',(∃σ' κ',Q e σ' κ'∧RelJ E Lb Φ0 W M κ' σ' a' w')∧ArrivesIn (Machine.fenced P (FW Φ0.round)) P (lone (b.atR a (.code c :: .inLoop c :: k)) cs w) b k cs e a' w':=by
  intro n
  induction n using Nat.strongRecOn with
  |_ n ih=>
   intro x a w hn hi' hI
   obtain ⟨e,a₁,w₁,⟨σ₁,κ₁,hq,hrel⟩,harr⟩:=round x hi' a w hI b (.inLoop c :: k) cs hro hb hroom
   cases e with
   |normal=>
    obtain ⟨y,hy,hlt,hsub,rfl⟩:=hq
    obtain ⟨e₂,a₂,w₂,hq₂,harr₂⟩:=ih (m y) (hn ▸ hlt) y a₁ w₁ rfl hy (hrel.sub hsub)
    exact ⟨e₂,a₂,w₂,hq₂, .of_steps (StepsIn.trans harr (.one (fenced_calm hb hroom rfl) stepR_inLoop)) harr₂⟩
   |exit id=>exact ⟨_,a₁,w₁,⟨σ₁,κ₁,hq,hrel⟩, .pass (x:=.inLoop c) rfl (fun _ _=>.inl (by simp)) harr⟩
   |goto l=>exact ⟨_,a₁,w₁,⟨σ₁,κ₁,hq,hrel⟩, .pass (x:=.inLoop c) rfl (fun _ _=>.inl (by simp)) harr⟩
   |ret=>exact ⟨_,a₁,w₁,⟨σ₁,κ₁,hq,hrel⟩, .pass (x:=.inLoop c) rfl (fun _ _=>.inl (by simp)) harr⟩
   |panic ch=>exact ⟨_,a₁,w₁,⟨σ₁,κ₁,hq,hrel⟩, .pass (x:=.inLoop c) rfl (fun _ _=>.inl (by simp)) harr⟩
   |outgrown=>exact ⟨_,a₁,w₁,⟨σ₁,κ₁,hq,hrel⟩, .pass (x:=.inLoop c) rfl (fun _ _=>.inl (by simp)) harr⟩
 subst hk
 obtain ⟨e,a',w',hq,harr⟩:=key _ x0 a w rfl hi (hr.sub h0)
 exact ⟨e,a',w',hq, .of_steps (.one (fenced_calm hb hroom rfl) stepR_loop) harr⟩
structure YAtG (ops:Array Oper) (l:Nat) (A:List (List PV)→Prop) (M:Nat) (pre:List (List PV)) (x:List PV) (o:Oper) (d:Nat) (σ:PS):Prop where
 dst:o.dst=some d
 lt:d < M
 op:∃c y,o.op = .call c∧c.callee = .value y∧pev σ y = .val (.func (.yield l) #[] #[])∧c.args.toList.map (pev σ)=x
 guard:pguard ops σ o=some true
 low:∀p∈x,Low p
 here:A (pre ++ [x])
 box:∀id bs,σ.b id=some bs→∀c∈bs,c.ownB=false
 map:∀id es c,σ.m id=some (.map es c)→∀e∈es,e.2.2.ownB=false
structure YAt (l:Nat) (A:List (List PV)→Prop) (M:Nat) (pre:List (List PV)) (x:List PV) (o:Oper) (d:Nat) (σ:PS):Prop where
 dst:o.dst=some d
 lt:d < M
 op:∃c y,o.op = .call c∧c.callee = .value y∧pev σ y = .val (.func (.yield l) #[] #[])∧c.args.toList.map (pev σ)=x
 guard:o.guard=none
 low:∀p∈x,Low p
 here:A (pre ++ [x])
 box:∀id bs,σ.b id=some bs→∀c∈bs,c.ownB=false
 map:∀id es c,σ.m id=some (.map es c)→∀e∈es,e.2.2.ownB=false
theorem YAt.toG {ops:Array Oper} {l:Nat} {A:List (List PV)→Prop} {M:Nat} {pre:List (List PV)} {x:List PV} {o:Oper} {d:Nat} {σ:PS} (h:YAt l A M pre x o d σ):YAtG ops l A M pre x o d σ:=
 ⟨h.dst,h.lt,h.op,by simp [pguard,h.guard],h.low,h.here,h.box,h.map⟩
def ybehind (σ:PS) (d:Nat) (b:Bool):PS:={ t:=upd (fun t=>(σ.t t).bare) d (.val (.bool b)),b:=σ.b,m:=σ.m }
theorem run_ycall {l:Nat} {o:Oper} {c:Call} {y:Operand} (hop:o.op = .call c) (hcal:c.callee = .value y) (hv:a.eval y = .func (.yield l) #[] #[]):(execOp a.eval o).run P w=(Instr.yield l (c.args.toList.map a.eval).toArray).run P w:=by
 have e:(#[]:Array Value) ++ c.args.map a.eval=(c.args.toList.map a.eval).toArray:=by
  apply Array.ext'
  simp
 simp only [execOp,hop,resolve,hcal,hv,Deferred.ofValue,Sem.run_bind,Sem.run_pure,Result.andThen_ok,invoke]
 rw [e]
open Classical in
theorem yield_sound {l d:Nat} {A:List (List PV)→Prop} {pre:List (List PV)} {x:List PV} {o:Oper} (hgiv:∀b,Old Φ0 W b→¬Mix Φ0.imm b) (hy:YOK P E l A Φ0.imm Lb W.heap.size) (hr:Φ0.round=none) (h:RelJ E Lb Φ0 W M (some pre) σ a w) {opsY:Array Oper} (ha:YAtG opsY l A M pre x o d σ)
  {K:Act→World→Prop} {Q' : Exit→Act→World→Prop} (hK:∀(b:Bool) a' w',RelJ E Lb Φ0 W M (if b then some (pre ++ [x]) else none) (ybehind σ d b) a' w'→K a' w'):o.wpIn (FW Φ0.round) 0 P a w K Q':=by
 obtain ⟨Φ1,W1,Φ,μ,ω,I,hl,hg0,hJ,h1,h2,h3,h4,h5,h6⟩:=h
 obtain ⟨c,y,hop,hcal,hyv,hargs⟩:=ha.op
 -- the marks of one's own are given away
 let σ1:PS:={ σ with t:=fun t=>(σ.t t).bare }
 have hg1:RelG Φ1 W1 M Φ μ ω σ1 a w:=hg0.forget _ (fun t=>.inr (.inr (.inl rfl)))
 let ω1:Nat→Option Who:=fun g=>if ∃i,ω g=some (.box i)∧μ i=some g∧(σ.b i≠none∨σ.m i≠none) then ω g else none
 have hω1:∀i g,ω g=some (.box i)→μ i=some g→(σ.b i≠none∨σ.m i≠none)→ω1 g=some (.box i):=fun i g e1 e2 e3=>by
  show (if _ then _ else _)=_
  rw [if_pos ⟨i,e1,e2,e3⟩];exact e1
 have hω2:∀g p,ω1 g=some p→ω g=some p∧∃i,ω g=some (.box i)∧μ i=some g∧(σ.b i≠none∨σ.m i≠none):=by
  intro g p e
  have e' : (if ∃i,ω g=some (.box i)∧μ i=some g∧(σ.b i≠none∨σ.m i≠none) then ω g else none)=some p:=e
  split at e'
  ·rename_i hh;exact ⟨e',hh⟩
  ·cases e'
 have hno1:∀t n k cs E',σ1.t t≠.sl n k cs (some E'):=by
  intro t n k cs E' e
  have h':=PV.bare_own (σ.t t)
  have e' : (σ.t t).bare = .sl n k cs (some E'):=e
  rw [e'] at h'
  simp [PV.ownB] at h'
 have hg:RelG Φ1 W1 M Φ μ ω1 σ1 a w:=by
  refine ⟨hg1.below,hg1.defers,hg1.size,hg1.imm,hg1.old,hg1.tmps,fun t n k cs E' e=>absurd e (hno1 t n k cs E'),fun id bs e=>?_,hg1.gone,fun g p e=>hg1.lt g p (hω2 g p e).1,hg1.gmu,hg1.kmu,hg1.ext,fun id X e=>?_,fun g p e=>hg1.mine g p (hω2 g p e).1⟩
  ·obtain ⟨g,cur,Ty,k1,k2,k3,k4,k5,k6,k7⟩:=hg1.box id bs e
   refine ⟨g,cur,Ty,k1,k2,k3,hω1 id g k4 k1 (.inl (by have e' : σ.b id=some bs:=e;rw [e'];simp)),k5,k6,fun j c' hc=>?_⟩
   obtain ⟨u,r1,r2,r3,-⟩:=k7 j c' hc
   refine ⟨u,r1,r2,r3,fun n k cs E' e' => ?_⟩
   have:=ha.box id bs e c' (mem_of_get hc)
   rw [e'] at this
   simp [PV.ownB] at this
  ·obtain ⟨g,k1,k2,k3,k4,k5⟩:=hg1.map id X e
   refine ⟨g,k1,k2,hω1 id g k3 k1 (.inr (by have e' : σ.m id=some X:=e;rw [e'];simp)),k4,?_⟩
   cases X with
   |map es clock=>
    obtain ⟨e0,ents,e1,e2,e3⟩:=k5
    refine ⟨e0,ents,e1,e2,fun j s k c' hj=>?_⟩
    obtain ⟨en,f1,f2,f3,f4,-⟩:=e3 j s k c' hj
    refine ⟨en,f1,f2,f3,f4,fun n kk cs E' ec=>?_⟩
    have:=ha.map id es clock e _ (mem_of_get hj)
    simp only [ec] at this
    simp [PV.ownB] at this
   |iter=>exact k5
 have hoff:∀g p,ω1 g=some p→∀j,Φ g j=none:=by
  intro g p e j
  obtain ⟨-,i,e1,e2,e3⟩:=hω2 g p e
  rcases e3 with e3|e3
  ·obtain ⟨bs,hbs⟩:=Option.ne_none_iff_exists'.1 e3
   obtain ⟨g',cur,Ty,k1,k2,k3,k4,k5,-⟩:=hg1.box i bs hbs
   rw [e2] at k1;cases k1
   exact k5 j
  ·obtain ⟨X,hX⟩:=Option.ne_none_iff_exists'.1 e3
   obtain ⟨g',k1,k2,k3,k4,-⟩:=hg1.map i X hX
   rw [e2] at k1;cases k1
   exact k4 j
 have hoffI:offI Φ ω1=Φ:=by
  funext b o'
  by_cases hh:∃p,ω1 b=some p
  ·obtain ⟨p,hp⟩:=hh
   rw [hoff b p hp o']
   exact freshI_own ⟨p,hp⟩
  ·exact freshI_eq fun p e=>hh ⟨p,e⟩
 have hJ1:E.J (some pre) I Φ w:=E.step hJ (Kept.refl _ _) (fun g hg' => .inl hg') (fun b o' u e _=>(offI_some.1 e).2) hg.imm
 have hrep:RepL Φ mu0 x (c.args.toList.map a.eval):=by
  refine ⟨by rw [←hargs];simp,fun j p u hp hu=>?_⟩
  have hl':=ha.low p (mem_of_get hp)
  rw [←hargs,List.getElem?_map] at hp
  rw [List.getElem?_map] at hu
  cases hj:c.args.toList[j]? with
  |none=>rw [hj] at hp;cases hp
  |some z=>
   rw [hj] at hp hu
   cases hp;cases hu
   exact (hg0.ev z).low hl'
 have hglob:GlobOK Φ:=hg.glob
 obtain ⟨fn,tmps,assign,body,hrun,hround⟩:=hy pre x I Φ w _ ha.here hJ1 h1 h6 hg.imm h4 h3 hglob hrep
 have hvy:a.eval y = .func (.yield l) #[] #[]:=by
  have:=hg0.ev y
  rw [hyv] at this
  exact this.val_inv.1
 unfold Oper.wpIn
 refine ⟨fun _ _=>trivial,?_⟩
 rw [Oper.semAt_eq _ _ _ (fun c' e=>by rw [hop] at e;cases e),run_ycall hop hcal hvy,hrun]
 refine ⟨(fun e=>by cases e),?_⟩
 rw [hr]
 refine hround.mono ?_
 rintro e w2 ⟨b,rfl,hJ2,hk2,him2⟩
 simp only
 have hWw:W.heap.size≤w.heap.size:=Nat.le_trans hl.kept.size hg.below.size
 have hg2:RelG Φ1 W1 M Φ μ ω1 σ1 a w2:=by
  refine hg.grow (hg.below.trans (hk2.mono fun g hg' => ?_)) him2 (fun _ _ _=>rfl) (fun _ _ _ e=>e) (fun g p e=>⟨hk2.block g (.inl (h2 g p (hω2 g p e).1)),fun _=>rfl⟩) hk2.size
  rcases hl.only g hg' with h' | h'
  ·exact .inr ⟨h'.1,hgiv g h'⟩
  ·exact .inl (h5 g h')
 have hg3:=hg2.put (d:=d) ha.lt (p:=.val (.bool b)) (v:=.bool b) (.val _ rfl) rfl
 rw [ha.dst]
 refine hK b _ _ ⟨Φ1,W1,Φ,μ,ω1,I,hl,hg3,by rw [hoffI];exact hJ2,fun g hg' => ⟨(h1 g hg').1,Nat.lt_of_lt_of_le (h1 g hg').2 hk2.size⟩,fun g p e=>h2 g p (hω2 g p e).1,h3,h4,h5,h6⟩
end
section
open Go.RowKit
variable {M:Nat} {P:Program} {T:Tab} {ops:List Oper} {base:Nat}
theorem any_soundR {R:PS→Act→World→Prop} (hR:∀σ a w,R σ a w→∃Φ0 W,Rel Φ0 W M σ a w∧∀σ' a' w',Rel Φ0 W M σ' a' w'→R σ' a' w') (hT:T=tabOf P) (hbase:base+ops.toArray.size≤1000000) (hall:∀(j:Nat) o,ops.toArray[j]? = some o→dstB M o=true) (hdraw:drawB ops=true) {Q:PS→Prop} {Q' : Exit→Act→World→Prop} (hQ:∀σ a w,Q σ→R σ a w→Q' .normal a w) {r:Option Nat} :
  ∀(fuel:Nat) (listed:Array Bool) (σ:PS) (a:Act) (w:World),unlisted listed≤fuel→listed.size=ops.length→(∀(i:Nat) o,ops[i]? = some o→listed.getD i false=true→∀j,depO o j=true→listed.getD j false=true) →
   PWops P T ops.toArray base (okR ops base) ((indexed 0 ops).filter fun x => !listed.getD x.1 false) Q σ→R σ a w→wpAnyIn (FW r) 0 P .any ops.toArray Q' fuel listed a w:=by
 obtain ⟨hE,hI⟩:=draw_parts hdraw
 have hsz:∀listed:Array Bool,listed.size=ops.length→listed.size=ops.toArray.size:=fun l h=>by simpa using h
 have fin:∀(listed:Array Bool) (σ:PS) (a:Act) (w:World),listed.size=ops.length→(∀i,i < ops.length→listed.getD i false=true) →
   PWops P T ops.toArray base (okR ops base) ((indexed 0 ops).filter fun x => !listed.getD x.1 false) Q σ→R σ a w→Q' .normal a w:=by
  intro listed σ a w hs hl h hr
  have:((indexed 0 ops).filter fun x => !listed.getD x.1 false) = []:=by
   rw [List.filter_eq_nil_iff]
   intro x hx
   obtain ⟨-,h2⟩:=indexed_mem 0 ops x hx
   have:x.1 < ops.length:=by have:=(List.getElem?_eq_some_iff.1 h2).1;omega
   simp [hl x.1 this]
  rw [this] at h
  exact hQ σ a w h hr
 have alls:∀listed:Array Bool,listed.size=ops.length→Region.ready .any ops.toArray listed = []→∀i,i < ops.length→listed.getD i false=true:=by
  intro listed hs hr i
  induction i using Nat.strongRecOn with
  |_ i ih=>
   intro hi
   have ho:ops.toArray[i]? = some ops[i]:=by simp [hi]
   cases hl:listed.getD i false with
   |true=>rfl
   |false=>
    have:i∈Region.ready .any ops.toArray listed:=(mem_ready (hsz listed hs)).2 ⟨ops[i],ho,hl,fun j hj=>by
     obtain ⟨e,he,hb,rfl⟩:=depO_iff.1 hj
     have:=hE i ops[i] (by simp [hi]) e he hb
     exact ih e.on this (by omega)⟩
    rw [hr] at this;cases this
 intro fuel
 induction fuel with
 |zero=>
  intro listed σ a w hu hs hcl h hr
  have hl:=unlisted_zero (Nat.le_zero.1 hu)
  rw [hs] at hl
  refine ⟨?_,fin listed σ a w hs hl h hr⟩
  apply List.eq_nil_iff_forall_not_mem.2
  intro i hi
  obtain ⟨o,ho,h1,_⟩:=(mem_ready (hsz listed hs)).1 hi
  rw [hl i (by have:=(Array.getElem?_eq_some_iff.1 ho).1;simpa using this)] at h1
  cases h1
 |succ fuel ih=>
  intro listed σ a w hu hs hcl h hr
  refine ⟨fun hrd=>fin listed σ a w hs (alls listed hs hrd) h hr,fun i hi=>?_⟩
  obtain ⟨o,ho,h1,h2⟩:=(mem_ready (hsz listed hs)).1 hi
  have ho' : ops[i]? = some o:=by simpa using ho
  have hil:i < ops.length:=(List.getElem?_eq_some_iff.1 ho').1
  have hmem:(i,o)∈(indexed 0 ops).filter fun x => !listed.getD x.1 false:=by
   rw [List.mem_filter]
   refine ⟨?_,by simp [h1]⟩
   have:∀(l:List Oper) (k i:Nat) o,l[i]? = some o→(k+i,o)∈indexed k l:=by
    intro l
    induction l with
    |nil=>intro k i o h;simp at h
    |cons p l ih=>
     intro k i o h
     cases i with
     |zero=>simp at h;subst h;simp [indexed]
     |succ i=>
      simp at h
      have:=ih (k+1) i o h
      simp only [indexed,List.mem_cons]
      right
      rw [show k+(i+1)=k+1+i by omega];exact this
   have:=this ops 0 i o ho'
   rwa [Nat.zero_add] at this
  obtain ⟨pre,post,hL⟩:=List.append_of_mem hmem
  have hsort:((indexed 0 ops).filter fun x => !listed.getD x.1 false).Pairwise (fun a b=>a.1 < b.1):=(indexed_sorted 0 ops).filter _
  rw [hL] at h hsort
  rw [List.pairwise_append] at hsort
  obtain ⟨-,hs2,hs3⟩:=hsort
  rw [List.pairwise_cons] at hs2
  have hpre:∀y∈pre,y.1 < i:=fun y hy=>hs3 y hy (i,o) (by simp)
  have hpost:∀y∈post,i < y.1:=fun y hy=>hs2.1 y hy
  have hprem:∀y∈pre,ops[y.1]? = some y.2∧listed.getD y.1 false=false:=by
   intro y hy
   have:y∈(indexed 0 ops).filter fun x => !listed.getD x.1 false:=by rw [hL];simp [hy]
   rw [List.mem_filter] at this
   obtain ⟨-,q⟩:=indexed_mem 0 ops y this.1
   exact ⟨by simpa using q,by simpa using this.2⟩
  have hb:=PWops.bubble (P:=P) (T:=T) (base:=base) (ok:=okR ops base) (cl:=clos ops) (ix:=i) (x:=o) (post:=post) (Q:=Q) pre σ (by
   intro y hy
   obtain ⟨q1,q2⟩:=hprem y hy
   have hlt:=hpre y hy
   have hnc:y.1∉(clos ops).getD i []:=fun hc=>by
    rw [clos_listed hE hcl i o ho' h2 y.1 hc] at q2;cases q2
   have hyl:y.1 < ops.length:=(List.getElem?_eq_some_iff.1 q1).1
   refine ⟨⟨by simpa using (hI i y.1 o y.2 ho' q1 hlt).resolve_left hnc,fun hs j hj1 hj2=>sep_ok (ops:=ops) q1 ho' (by simpa using hs) j hj1 hj2⟩,by omega,?_,?_⟩
   ·rw [okR,Bool.and_eq_false_iff];left
    simp only [okD,Bool.or_eq_false_iff,decide_eq_false_iff_not]
    refine ⟨⟨by omega,by omega⟩,?_⟩
    rw [Nat.add_sub_cancel_left]
    simpa using hnc
   ·rw [okR,Bool.and_eq_false_iff];left
    simp only [okD,Bool.or_eq_false_iff,decide_eq_false_iff_not]
    refine ⟨⟨by omega,by omega⟩,?_⟩
    rw [Nat.add_sub_cancel_left]
    have:i∉(clos ops).getD y.1 []:=fun hc=>by have:=clos_lt hE y.1 y.2 q1 i hc;omega
    simpa using this) h
  have hset:listed.getD i false=false:=h1
  have hlt:i < listed.size:=by rw [hs];exact hil
  have hrem:pre ++ post=(indexed 0 ops).filter fun x => !(listed.setIfInBounds i true).getD x.1 false:=by
   have e1:((indexed 0 ops).filter fun x => !(listed.setIfInBounds i true).getD x.1 false)=((indexed 0 ops).filter fun x => !listed.getD x.1 false).filter (fun x => !decide (x.1=i)):=by
    rw [List.filter_filter]
    congr 1
    funext x
    rw [getD_set _ _ _ hlt]
    cases listed.getD x.1 false<;>simp
   rw [e1,hL,List.filter_append,List.filter_cons]
   have e2:pre.filter (fun x => !decide (x.1=i))=pre:=List.filter_eq_self.2 (fun y hy=>by have:=hpre y hy;simp;omega)
   have e3:post.filter (fun x => !decide (x.1=i))=post:=List.filter_eq_self.2 (fun y hy=>by have:=hpost y hy;simp;omega)
   rw [e2,e3]
   simp
  have hcl' : ∀(k:Nat) p,ops[k]? = some p→(listed.setIfInBounds i true).getD k false=true→∀j,depO p j=true→(listed.setIfInBounds i true).getD j false=true:=by
   intro k p hp hk j hj
   rw [getD_set _ _ _ hlt] at hk ⊢
   simp only [Bool.or_eq_true,decide_eq_true_eq] at hk ⊢
   rcases hk with rfl|hk
   ·rw [ho'] at hp;cases hp;exact .inr (h2 j hj)
   ·exact .inr (hcl k p hp hk j hj)
  obtain ⟨Φ0,W,hrel,hbk⟩:=hR σ a w hr
  have hstep:=op_sound (Φ0:=Φ0) (W:=W) (M:=M) hT hall (base:=base) hbase ho (K':=wpAnyIn (FW r) 0 P .any ops.toArray Q' fuel (listed.setIfInBounds i true)) (Q':=Q') (fun σ' a' w' hk hr' => ih (listed.setIfInBounds i true) σ' a' w' (by have:=unlisted_set listed i hlt hset;omega) (by simpa using hs) hcl' (by rw [←hrem];exact hk) (hbk _ _ _ hr')) hb hrel
  unfold wpOpIn
  rw [ho]
  simp only
  split
  ·rename_i hw;rw [if_pos hw] at hstep;exact wpIn_of_wp (dstB_defer (hall i o ho)) hstep
  ·rename_i hw;rw [if_neg hw] at hstep;exact ⟨fun _ _=>trivial,hstep⟩
theorem opsR_sound {R:PS→Act→World→Prop} (hR:∀σ a w,R σ a w→∃Φ0 W,Rel Φ0 W M σ a w∧∀σ' a' w',Rel Φ0 W M σ' a' w'→R σ' a' w') (hT:T=tabOf P) {ops:Array Oper} (hall:∀(j:Nat) o,ops[j]? = some o→dstB M o=true) {base:Nat} (hbase:base+ops.size≤1000000) {ok:Nat→Nat→Bool} {r:Option Nat} {Q:PS→Prop} {Q' : Exit→Act→World→Prop} {tail:List Nat} (hQ:∀σ a w,Q σ→R σ a w→wpOpsIn (FW r) 0 P ops Q' tail a w) :
  ∀(l:List (Nat×Oper)),(∀x∈l,ops[x.1]? = some x.2)→∀(σ:PS) (a:Act) (w:World),PWops P T ops base ok l Q σ→R σ a w→wpOpsIn (FW r) 0 P ops Q' (l.map (·.1) ++ tail) a w
 | [],_,σ,a,w,h,hr=>hQ σ a w h hr
 |(i,o) :: rest,hl,σ,a,w,h,hr=>by
  have hio:ops[i]? = some o:=hl (i,o) (by simp)
  have ih:=opsR_sound hR hT hall hbase (ok:=ok) (r:=r) hQ rest (fun x hx=>hl x (by simp [hx]))
  simp only [List.map_cons,List.cons_append,wpOpsIn,hio]
  obtain ⟨Φ0,W,hrel,hbk⟩:=hR σ a w hr
  have:=op_sound hT hall hbase hio (K':=wpOpsIn (FW r) 0 P ops Q' (rest.map (·.1) ++ tail)) (Q':=Q') (fun σ' a' w' hk hr' => ih σ' a' w' hk (hbk _ _ _ hr')) h hrel
  split
  ·rename_i hw;rw [if_pos hw] at this;exact wpIn_of_wp (dstB_defer (hall i o hio)) this
  ·rename_i hw;rw [if_neg hw] at this;exact ⟨fun _ _=>trivial,this⟩
theorem indexed_len:∀(k:Nat) (l:List Oper),(indexed k l).length=l.length
 |_,[]=>rfl
 |k,o :: r=>by simp [indexed,indexed_len (k+1) r]
end
section
open Go.RowKit
variable {E:ItEnv} {Lb:Nat→Prop} {Φ0:Ent} {W:World} {M:Nat} {κ:Come} {σ:PS} {a:Act} {w:World} {P:Program} {T:Tab} {Q:Exit→PS→Come→Prop}
theorem relJ_R:∀σ a w,RelJ E Lb Φ0 W M κ σ a w→∃Φf W',Rel Φf W' M σ a w∧∀σ' a' w',Rel Φf W' M σ' a' w'→RelJ E Lb Φ0 W M κ σ' a' w':=by
 intro σ a w h
 obtain ⟨Φf,-,h1,h2⟩:=h.go
 exact ⟨Φf,w,h1,fun σ' a' w' h3=>h2 Φf w σ' a' w' (Later.refl _ _) h3⟩
theorem RelJ.drew (h:RelJ E Lb Φ0 W M κ σ a w):RelJ E Lb Φ0 W M κ σ a w.drew:=by
 obtain ⟨Φf,-,⟨Φ,μ,ω,h1⟩,h2⟩:=h.go
 exact h2 Φf w σ a w.drew (Later.refl _ _) ⟨Φ,μ,ω,h1.drew⟩
theorem PWJ.region (hT:T=tabOf P) {l d:Nat} {A:List (List PV)→Prop} (hgiv:∀b,Old Φ0 W b→¬Mix Φ0.imm b) (hy:YOK P E l A Φ0.imm Lb W.heap.size) (hr:Φ0.round=none) {id:Nat} {ops:List Oper} (hall2:(ops.all (dstB M) && Nat.ble (1000 * id+ops.length) 1000000)=true)
  {before after:List (Nat×Oper)} {n0:Nat} {y:Oper} (hsp:indexed 0 ops=before ++ (n0,y) :: after) {pre:List (List PV)} {x:List PV} (hk:κ=some pre)
  (h:PWops P T ops.toArray (1000 * id) (fun _ _=>true) before (fun σ' => YAtG ops.toArray l A M pre x y d σ'∧∀b:Bool,PWops P T ops.toArray (1000 * id) (fun _ _=>true) after (fun σ'' => Q .normal σ'' (if b then some (pre ++ [x]) else none)) (ybehind σ' d b)) σ) :
  PWJ E Lb Φ0 W P M (.region id ops.toArray false) Q σ κ:=by
 intro a w hrel
 subst hk
 have hall2':=hall2
 simp only [Bool.and_eq_true] at hall2'
 obtain ⟨hall,hb0⟩:=hall2'
 have hbase:=Nat.le_of_ble_eq_true hb0
 have hall' : ∀(j:Nat) o,ops.toArray[j]? = some o→dstB M o=true:=by
  intro j o hj
  exact List.all_eq_true.1 hall o (mem_of_get (by simpa using hj))
 have hmem:∀z∈indexed 0 ops,ops.toArray[z.1]? = some z.2:=by
  intro z hz
  obtain ⟨-,h2⟩:=indexed_mem 0 ops z hz
  simpa using h2
 refine wpIn_region ?_
 have hidx:List.range ops.toArray.size=before.map (·.1) ++ (n0 :: after.map (·.1)):=by
  rw [List.range_eq_range',List.size_toArray,←indexed_fst,hsp]
  simp
 rw [hidx]
 refine opsR_sound (R:=RelJ E Lb Φ0 W M (some pre)) relJ_R hT hall' (by simpa using hbase) (fun σ' a' w' hq hr' => ?_) before (fun z hz=>hmem z (by rw [hsp];exact List.mem_append.2 (.inl hz))) σ a w h hrel
 obtain ⟨hya,haf⟩:=hq
 have hn0:ops.toArray[n0]? = some y:=hmem (n0,y) (by rw [hsp];exact List.mem_append.2 (.inr List.mem_cons_self))
 simp only [wpOpsIn,hn0]
 have hMd:∀(j d:Nat),(ops.toArray[j]?).bind (·.dst)=some d→d < M:=by
  intro j d' e
  obtain ⟨o',h1,h2⟩:=Option.bind_eq_some_iff.1 e
  exact (dstB_spec (hall' j o' h1)).1 d' h2
 have hw:Region.wanted y (yielded ops.toArray a'.tmps)=true:=by
  obtain ⟨Φ1,W1,Φ,μ,ω,I,hl,hg0,-⟩:=hr'
  exact guard_wanted hg0 hMd hya.guard
 rw [if_pos hw]
 refine yield_sound hgiv hy hr hr' hya (fun b a2 w2 hr2=>?_)
 have:=opsR_sound (R:=RelJ E Lb Φ0 W M (if b then some (pre ++ [x]) else none)) (r:=Φ0.round) (Q':=fun e a' w' => ∃σ' κ',Q e σ' κ'∧RelJ E Lb Φ0 W M κ' σ' a' w') (tail := []) relJ_R hT hall' (by simpa using hbase) (fun σ'' a3 w3 hq hr3=>⟨σ'',_,hq,hr3⟩) after (fun z hz=>hmem z (by rw [hsp];exact List.mem_append.2 (.inr (List.mem_cons_of_mem _ hz)))) _ a2 w2 (haf b) hr2
 simpa using this
end
section
open Go.RowKit
def drawY (ops:List Oper) (n0:Nat):Bool:=drawB ops && (List.range n0).all (fun j=>((clos ops).getD n0 []).contains j) && (List.range' (n0+1) (ops.length - (n0+1))).all (fun j=>((clos ops).getD j []).contains n0)
end
section
open Go.RowKit
variable {E:ItEnv} {Lb:Nat→Prop} {Φ0:Ent} {W:World} {M:Nat} {κ:Come} {σ:PS} {a:Act} {w:World} {P:Program} {T:Tab} {Q:Exit→PS→Come→Prop} {ops:List Oper} {base:Nat}
theorem any_soundY (hT:T=tabOf P) (hbase:base+ops.toArray.size≤1000000) (hall:∀(j:Nat) o,ops.toArray[j]? = some o→dstB M o=true) {n0:Nat} (hdraw:drawY ops n0=true)
  {l d:Nat} {A:List (List PV)→Prop} (hgiv:∀b,Old Φ0 W b→¬Mix Φ0.imm b) (hy:YOK P E l A Φ0.imm Lb W.heap.size) (hr:Φ0.round=none) {pre:List (List PV)} {x:List PV} {before after:List (Nat×Oper)} {y:Oper} (hsp:indexed 0 ops=before ++ (n0,y) :: after) {Q' : Exit→Act→World→Prop} {Qa:Bool→PS→Prop}
  (hQ:∀b σ a w,Qa b σ→RelJ E Lb Φ0 W M (if b then some (pre ++ [x]) else none) σ a w→Q' .normal a w) :
  ∀(fuel:Nat) (listed:Array Bool) (σ:PS) (a:Act) (w:World),unlisted listed≤fuel→listed.size=ops.length→(∀(i:Nat) o,ops[i]? = some o→listed.getD i false=true→∀j,depO o j=true→listed.getD j false=true)→listed.getD n0 false=false →
   PWops P T ops.toArray base (okR ops base) (before.filter fun x => !listed.getD x.1 false) (fun σ' => YAt l A M pre x y d σ'∧∀b,PWops P T ops.toArray base (okR ops base) after (Qa b) (ybehind σ' d b)) σ→RelJ E Lb Φ0 W M (some pre) σ a w→wpAnyIn (FW Φ0.round) 0 P .any ops.toArray Q' fuel listed a w:=by
 simp only [drawY,Bool.and_eq_true] at hdraw
 obtain ⟨⟨hdr,hd1⟩,hd2⟩:=hdraw
 obtain ⟨hE,hI⟩:=draw_parts hdr
 have hsz:∀listed:Array Bool,listed.size=ops.length→listed.size=ops.toArray.size:=fun l h=>by simpa using h
 have hsorted:=indexed_sorted 0 ops
 rw [hsp,List.pairwise_append] at hsorted
 obtain ⟨hsb,hsa,hsx⟩:=hsorted
 rw [List.pairwise_cons] at hsa
 have hmem:∀z∈indexed 0 ops,ops[z.1]? = some z.2:=by
  intro z hz
  obtain ⟨-,h2⟩:=indexed_mem 0 ops z hz
  simpa using h2
 have hy0:ops[n0]? = some y:=hmem (n0,y) (by rw [hsp];exact List.mem_append.2 (.inr List.mem_cons_self))
 have hn0:n0 < ops.length:=(List.getElem?_eq_some_iff.1 hy0).1
 have hbm:∀z∈before,z.1 < n0∧ops[z.1]? = some z.2:=fun z hz=>⟨hsx z hz (n0,y) List.mem_cons_self,hmem z (by rw [hsp];exact List.mem_append.2 (.inl hz))⟩
 have ham:∀z∈after,n0 < z.1∧ops[z.1]? = some z.2:=fun z hz=>⟨hsa.1 z hz,hmem z (by rw [hsp];exact List.mem_append.2 (.inr (List.mem_cons_of_mem _ hz)))⟩
 have hcb:∀z∈before,z.1∈(clos ops).getD n0 []:=fun z hz=>List.contains_iff_mem.1 (List.all_eq_true.1 hd1 z.1 (List.mem_range.2 (hbm z hz).1))
 have hca:∀z∈after,n0∈(clos ops).getD z.1 []:=fun z hz=>List.contains_iff_mem.1 (List.all_eq_true.1 hd2 z.1 (by
  have:=(ham z hz).1
  have:=(List.getElem?_eq_some_iff.1 (ham z hz).2).1
  rw [List.mem_range'_1];omega))
 have hinx:∀(i:Nat) o,ops[i]? = some o→(i,o)∈indexed 0 ops:=by
  have:∀(l:List Oper) (k i:Nat) o,l[i]? = some o→(k+i,o)∈indexed k l:=by
   intro l
   induction l with
   |nil=>intro k i o h;simp at h
   |cons p l ih=>
    intro k i o h
    cases i with
    |zero=>simp at h;subst h;simp [indexed]
    |succ i=>
     simp at h
     have:=ih (k+1) i o h
     simp only [indexed,List.mem_cons]
     right
     rw [show k+(i+1)=k+1+i by omega];exact this
  intro i o h
  have:=this ops 0 i o h
  rwa [Nat.zero_add] at this
 have alls:∀listed:Array Bool,listed.size=ops.length→Region.ready .any ops.toArray listed = []→∀i,i < ops.length→listed.getD i false=true:=by
  intro listed hs hr i
  induction i using Nat.strongRecOn with
  |_ i ih=>
   intro hi
   have ho:ops.toArray[i]? = some ops[i]:=by simp [hi]
   cases hl:listed.getD i false with
   |true=>rfl
   |false=>
    have:i∈Region.ready .any ops.toArray listed:=(mem_ready (hsz listed hs)).2 ⟨ops[i],ho,hl,fun j hj=>by
     obtain ⟨e,he,hb,rfl⟩:=depO_iff.1 hj
     have:=hE i ops[i] (by simp [hi]) e he hb
     exact ih e.on this (by omega)⟩
    rw [hr] at this;cases this
 intro fuel
 induction fuel with
 |zero=>
  intro listed σ a w hu hs hcl hn h hr
  have hl:=unlisted_zero (Nat.le_zero.1 hu)
  rw [hl n0 (by rw [hs];exact hn0)] at hn
  cases hn
 |succ fuel ih=>
  intro listed σ a w hu hs hcl hn h hrel
  refine ⟨(fun hrd=>by rw [alls listed hs hrd n0 hn0] at hn;cases hn),fun i hi=>?_⟩
  obtain ⟨o,ho,h1,h2⟩:=(mem_ready (hsz listed hs)).1 hi
  have ho' : ops[i]? = some o:=by simpa using ho
  have hil:i < ops.length:=(List.getElem?_eq_some_iff.1 ho').1
  have hset:listed.getD i false=false:=h1
  have hlt:i < listed.size:=by rw [hs];exact hil
  have hcl' : ∀(k:Nat) p,ops[k]? = some p→(listed.setIfInBounds i true).getD k false=true→∀j,depO p j=true→(listed.setIfInBounds i true).getD j false=true:=by
   intro k p hp hk j hj
   rw [getD_set _ _ _ hlt] at hk ⊢
   simp only [Bool.or_eq_true,decide_eq_true_eq] at hk ⊢
   rcases hk with rfl|hk
   ·rw [ho'] at hp;cases hp;exact .inr (h2 j hj)
   ·exact .inr (hcl k p hp hk j hj)
  have hin:=hinx i o ho'
  rw [hsp] at hin
  rcases List.mem_append.1 hin with hin|hin
  ·-- ahead of the call
   have hmem:(i,o)∈before.filter fun x => !listed.getD x.1 false:=by
    rw [List.mem_filter]
    exact ⟨hin,by simp [h1]⟩
   obtain ⟨pre',post',hL⟩:=List.append_of_mem hmem
   have hsort:(before.filter fun x => !listed.getD x.1 false).Pairwise (fun a b=>a.1 < b.1):=hsb.filter _
   rw [hL] at h hsort
   rw [List.pairwise_append] at hsort
   obtain ⟨-,hs2,hs3⟩:=hsort
   rw [List.pairwise_cons] at hs2
   have hpre:∀y∈pre',y.1 < i:=fun y hy=>hs3 y hy (i,o) (by simp)
   have hpost:∀y∈post',i < y.1:=fun y hy=>hs2.1 y hy
   have hprem:∀y∈pre',ops[y.1]? = some y.2∧listed.getD y.1 false=false:=by
    intro y hy
    have:y∈before.filter fun x => !listed.getD x.1 false:=by rw [hL];simp [hy]
    rw [List.mem_filter] at this
    exact ⟨(hbm y this.1).2,by simpa using this.2⟩
   have hb:=PWops.bubble (P:=P) (T:=T) (base:=base) (ok:=okR ops base) (cl:=clos ops) (ix:=i) (x:=o) (post:=post') (Q:=fun σ' => YAt l A M pre x y d σ'∧∀b,PWops P T ops.toArray base (okR ops base) after (Qa b) (ybehind σ' d b)) pre' σ (by
    intro y hy
    obtain ⟨q1,q2⟩:=hprem y hy
    have hlt:=hpre y hy
    have hnc:y.1∉(clos ops).getD i []:=fun hc=>by
     rw [clos_listed hE hcl i o ho' h2 y.1 hc] at q2;cases q2
    have hyl:y.1 < ops.length:=(List.getElem?_eq_some_iff.1 q1).1
    refine ⟨⟨by simpa using (hI i y.1 o y.2 ho' q1 hlt).resolve_left hnc,fun hs j hj1 hj2=>sep_ok (ops:=ops) q1 ho' (by simpa using hs) j hj1 hj2⟩,by omega,?_,?_⟩
    ·rw [okR,Bool.and_eq_false_iff];left
     simp only [okD,Bool.or_eq_false_iff,decide_eq_false_iff_not]
     refine ⟨⟨by omega,by omega⟩,?_⟩
     rw [Nat.add_sub_cancel_left]
     simpa using hnc
    ·rw [okR,Bool.and_eq_false_iff];left
     simp only [okD,Bool.or_eq_false_iff,decide_eq_false_iff_not]
     refine ⟨⟨by omega,by omega⟩,?_⟩
     rw [Nat.add_sub_cancel_left]
     have:i∉(clos ops).getD y.1 []:=fun hc=>by have:=clos_lt hE y.1 y.2 q1 i hc;omega
     simpa using this) h
   have hrem:pre' ++ post' = before.filter fun x => !(listed.setIfInBounds i true).getD x.1 false:=by
    have e1:(before.filter fun x => !(listed.setIfInBounds i true).getD x.1 false)=(before.filter fun x => !listed.getD x.1 false).filter (fun x => !decide (x.1=i)):=by
     rw [List.filter_filter]
     congr 1
     funext x
     rw [getD_set _ _ _ hlt]
     cases listed.getD x.1 false<;>simp
    rw [e1,hL,List.filter_append,List.filter_cons]
    have e2:pre'.filter (fun x => !decide (x.1=i))=pre':=List.filter_eq_self.2 (fun y hy=>by have:=hpre y hy;simp;omega)
    have e3:post'.filter (fun x => !decide (x.1=i))=post':=List.filter_eq_self.2 (fun y hy=>by have:=hpost y hy;simp;omega)
    rw [e2,e3]
    simp
   have hn' : (listed.setIfInBounds i true).getD n0 false=false:=by
    rw [getD_set _ _ _ hlt]
    have:=(hbm (i,o) hin).1
    simp only at this
    rw [hn]
    simp;omega
   obtain ⟨Φf,W',hrel',hbk⟩:=relJ_R σ a w hrel
   have hstep:=op_sound (Φ0:=Φf) (W:=W') (M:=M) hT hall (base:=base) hbase ho (K':=wpAnyIn (FW Φ0.round) 0 P .any ops.toArray Q' fuel (listed.setIfInBounds i true)) (Q':=Q') (fun σ' a' w' hk hr' => ih (listed.setIfInBounds i true) σ' a' w' (by have:=unlisted_set listed i hlt hset;omega) (by simpa using hs) hcl' hn' (by rw [←hrem];exact hk) (hbk _ _ _ hr')) hb hrel'
   unfold wpOpIn
   rw [ho]
   simp only
   split
   ·rename_i hw;rw [if_pos hw] at hstep;exact wpIn_of_wp (dstB_defer (hall i o ho)) hstep
   ·rename_i hw;rw [if_neg hw] at hstep;exact ⟨fun _ _=>trivial,hstep⟩
  ·rcases List.mem_cons.1 hin with hin|hin
   ·-- the call
    cases hin
    have hall' : ∀z∈before,listed.getD z.1 false=true:=fun z hz=>clos_listed hE hcl n0 y hy0 h2 z.1 (hcb z hz)
    have hnil:(before.filter fun x => !listed.getD x.1 false) = []:=by
     rw [List.filter_eq_nil_iff]
     intro z hz
     simp [hall' z hz]
    rw [hnil] at h
    obtain ⟨hya,haf⟩:=h
    unfold wpOpIn
    rw [ho]
    simp only
    have hw:Region.wanted y (yielded ops.toArray a.tmps)=true:=by simp [Region.wanted,hya.guard]
    rw [if_pos hw]
    refine yield_sound (opsY:=ops.toArray) hgiv hy hr hrel hya.toG (fun b a2 w2 hr2=>?_)
    refine any_soundR (R:=RelJ E Lb Φ0 W M (if b then some (pre ++ [x]) else none)) (r:=Φ0.round) relJ_R hT hbase hall hdr (Q:=Qa b) (fun σ' a' w' hq hr' => hQ b σ' a' w' hq hr') fuel (listed.setIfInBounds n0 true) _ a2 w2 (by have:=unlisted_set listed n0 hlt hset;omega) (by simpa using hs) hcl' ?_ hr2
    have:((indexed 0 ops).filter fun x => !(listed.setIfInBounds n0 true).getD x.1 false)=after:=by
     rw [hsp,List.filter_append,List.filter_cons]
     have e1:(before.filter fun x => !(listed.setIfInBounds n0 true).getD x.1 false) = []:=by
      rw [List.filter_eq_nil_iff]
      intro z hz
      rw [getD_set _ _ _ hlt]
      simp [hall' z hz]
     have e2:(after.filter fun x => !(listed.setIfInBounds n0 true).getD x.1 false)=after:=by
      rw [List.filter_eq_self]
      intro z hz
      rw [getD_set _ _ _ hlt]
      have hz1:=(ham z hz).1
      have hz2:listed.getD z.1 false=false:=by
       cases hzz:listed.getD z.1 false with
       |false=>rfl
       |true=>
        have:=clos_listed hE hcl z.1 z.2 (ham z hz).2 (hcl z.1 z.2 (ham z hz).2 hzz) n0 (hca z hz)
        rw [hn] at this;cases this
      rw [hz2]
      simp;omega
     rw [e1,e2,getD_set _ _ _ hlt]
     simp
    rw [this]
    exact haf b
   ·-- behind the call: it has not come yet
    have:=clos_listed hE hcl i o ho' h2 n0 (hca (i,o) hin)
    rw [hn] at this;cases this
theorem PWJ.draw (hT:T=tabOf P) (hm:P.follows .mixedOrders=true) {l d:Nat} {A:List (List PV)→Prop} (hgiv:∀b,Old Φ0 W b→¬Mix Φ0.imm b) (hy:YOK P E l A Φ0.imm Lb W.heap.size) (hr:Φ0.round=none) {id:Nat} (hall2:(ops.all (dstB M) && Nat.ble (1000 * id+ops.length) 1000000)=true) {n0:Nat} (hd:drawY ops n0=true)
  {before after:List (Nat×Oper)} {y:Oper} (hsp:indexed 0 ops=before ++ (n0,y) :: after) {pre:List (List PV)} {x:List PV} (hk:κ=some pre)
  (h:PWops P T ops.toArray (1000 * id) (okR ops (1000 * id)) before (fun σ' => YAt l A M pre x y d σ'∧∀b:Bool,PWops P T ops.toArray (1000 * id) (okR ops (1000 * id)) after (fun σ'' => Q .normal σ'' (if b then some (pre ++ [x]) else none)) (ybehind σ' d b)) σ) :
  PWJ E Lb Φ0 W P M (.region id ops.toArray true) Q σ κ:=by
 intro a w hrel
 subst hk
 have hall2':=hall2
 simp only [Bool.and_eq_true] at hall2'
 obtain ⟨hall,hb0⟩:=hall2'
 have hbase:=Nat.le_of_ble_eq_true hb0
 refine wpIn_region_any hm ?_
 have hn0:n0 < ops.length:=by
  have:(n0,y)∈indexed 0 ops:=by rw [hsp];exact List.mem_append.2 (.inr List.mem_cons_self)
  obtain ⟨-,h2⟩:=indexed_mem 0 ops _ this
  exact (List.getElem?_eq_some_iff.1 (by simpa using h2)).1
 refine any_soundY (base:=1000 * id) (d:=d) (Qa:=fun b σ'' => Q .normal σ'' (if b then some (pre ++ [x]) else none)) hT (by simpa using hbase) (by
  intro j o hj
  exact List.all_eq_true.1 hall o (mem_of_get (by simpa using hj))) hd hgiv hy hr hsp (fun b σ' a' w' hq hr' => ⟨σ',_,hq,hr'⟩) _ _ σ a _ ?_ (by simp) ?_ ?_ ?_ hrel.drew
 ·unfold unlisted
  exact Nat.le_trans List.countP_le_length (by simp)
 ·intro i o ho hl
  simp [Array.getD_eq_getD_getElem?,Array.getElem?_replicate] at hl
  split at hl<;>simp_all
 ·simp [Array.getD_eq_getD_getElem?,Array.getElem?_replicate]
  split<;>rfl
 ·have:(before.filter fun x => !(Array.replicate ops.toArray.size false).getD x.1 false)=before:=by
   rw [List.filter_eq_self]
   intro x _
   simp [Array.getD_eq_getD_getElem?,Array.getElem?_replicate]
   split<;>rfl
  rw [this]
  exact h
theorem PWops.mono {P:Program} {T:Tab} {ops:Array Oper} {base:Nat} {ok:Nat→Nat→Bool} {Q Q' : PS→Prop} (hq:∀σ,Q σ→Q' σ):∀{l:List (Nat×Oper)} {σ:PS},PWops P T ops base ok l Q σ→PWops P T ops base ok l Q' σ
 | [],σ,h=>hq σ h
 |(i,o) :: l,σ,⟨E,h1,h2⟩=>⟨E,h1,PWops.mono hq h2⟩
theorem PWJ.regionG (n0:Nat) (hT:T=tabOf P) {l d:Nat} {A:List (List PV)→Prop} (hgiv:∀b,Old Φ0 W b→¬Mix Φ0.imm b) (hy:YOK P E l A Φ0.imm Lb W.heap.size) (hr:Φ0.round=none) {id:Nat} (hall2:(ops.all (dstB M) && Nat.ble (1000 * id+ops.length) 1000000)=true)
  {y:Oper} (hsp:ops[n0]? = some y) {pre:List (List PV)} {x:List PV} (hk:κ=some pre)
  (h:PWops P T ops.toArray (1000 * id) (fun _ _=>true) ((indexed 0 ops).take n0) (fun σ' => YAtG ops.toArray l A M pre x y d σ'∧∀b:Bool,PWops P T ops.toArray (1000 * id) (fun _ _=>true) ((indexed 0 ops).drop (n0+1)) (fun σ'' => Q .normal σ'' (if b then some (pre ++ [x]) else none)) (ybehind σ' d b)) σ) :
  PWJ E Lb Φ0 W P M (.region id ops.toArray false) Q σ κ:=by
 refine PWJ.region hT hgiv hy hr hall2 (before:=(indexed 0 ops).take n0) (after:=(indexed 0 ops).drop (n0+1)) (n0:=n0) (y:=y) ?_ hk h
 have hlen:n0 < (indexed 0 ops).length:=by rw [indexed_len];exact (List.getElem?_eq_some_iff.1 hsp).1
 have e1:(indexed 0 ops)[n0]=(n0,y):=by
  have hf:((indexed 0 ops).map (·.1))[n0]? = some n0:=by
   rw [indexed_fst,List.getElem?_range' (by rw [indexed_len] at hlen;exact hlen)];simp
  rw [List.getElem?_map,List.getElem?_eq_getElem hlen] at hf
  have h1:((indexed 0 ops)[n0]).1=n0:=by simpa using hf
  obtain ⟨-,h2⟩:=indexed_mem 0 ops _ (List.getElem_mem hlen)
  rw [h1,Nat.sub_zero,hsp] at h2
  exact Prod.ext h1 (Option.some.inj h2).symm
 rw [←e1]
 exact (List.take_append_drop n0 _).symm.trans (by rw [List.drop_eq_getElem_cons hlen])
theorem PWJ.condT {c:Operand} {x y:Code} (hc:pev σ c = .val (.bool true)) (h:PWJ E Lb Φ0 W P M x Q σ κ):PWJ E Lb Φ0 W P M (.cond c x y) Q σ κ:=PWJ.cond hc h
theorem PWJ.condF {c:Operand} {x y:Code} (hc:pev σ c = .val (.bool false)) (h:PWJ E Lb Φ0 W P M y Q σ κ):PWJ E Lb Φ0 W P M (.cond c x y) Q σ κ:=PWJ.cond hc h
theorem thenJ {y:Code} (h:PWJ E Lb Φ0 W P M y Q σ κ):ThenJ E Lb Φ0 W P M y Q .normal σ κ:=h
theorem thenJ_ret {y:Code} (h:Q .ret σ κ):ThenJ E Lb Φ0 W P M y Q .ret σ κ:=h
theorem thenJ_exit {y:Code} {i:Nat} (h:Q (.exit i) σ κ):ThenJ E Lb Φ0 W P M y Q (.exit i) σ κ:=h
theorem blockJ {id:Nat} (h:Q .normal σ κ):BlockJ id Q .normal σ κ:=h
theorem blockJ_exit {id:Nat} (h:Q .normal σ κ):BlockJ id Q (.exit id) σ κ:=by simpa [BlockJ] using h
theorem blockJ_ret {id:Nat} (h:Q .ret σ κ):BlockJ id Q .ret σ κ:=h
theorem blockJ_other {id j:Nat} (hj:j≠id) (h:Q (.exit j) σ κ):BlockJ id Q (.exit j) σ κ:=by simpa [BlockJ,hj] using h
theorem loopJ {α:Type} {st:α→PS} {kf:α→Come} {I:α→Prop} {m:α→Nat} {x:α} (y:α) (hi:I y) (hm:m y < m x) (hs:Sub M σ (st y)) (hk:κ=kf y):LoopJ M st kf I m x Q .normal σ κ:=⟨y,hi,hm,hs,hk⟩
theorem loopJ_exit {α:Type} {st:α→PS} {kf:α→Come} {I:α→Prop} {m:α→Nat} {x:α} {j:Nat} (h:Q (.exit j) σ κ):LoopJ M st kf I m x Q (.exit j) σ κ:=h
theorem loopJ_ret {α:Type} {st:α→PS} {kf:α→Come} {I:α→Prop} {m:α→Nat} {x:α} (h:Q .ret σ κ):LoopJ M st kf I m x Q .ret σ κ:=h
theorem BoxAt.lent {S B B' : Nat→Prop} {Φ:Imm} {μ μ' : Nat→Option Nat} {ω ω' : Nat→Option Who} {w:World} {id:Nat} {bs:List PV} (h:BoxAt B Φ μ ω w id bs) (hs:S id) (hl:∀c∈bs,LowI S c) (hno:∀c∈bs,c.ownB=false) (hμ:∀i,S i→∀g,μ i=some g→μ' i=some g) (hω:∀g,μ id=some g→ω g=some (.box id)→ω' g=some (.box id)∧B' g):BoxAt B' Φ μ' ω' w id bs:=by
 obtain ⟨g,cur,T,h1,h2,h3,h4,h5,h6,h7⟩:=h
 obtain ⟨k1,k2⟩:=hω g h1 h4
 refine ⟨g,cur,T,hμ _ hs _ h1,h2,k2,k1,h5,h6,fun j c hc=>?_⟩
 obtain ⟨u,r1,r2,r3,-⟩:=h7 j c hc
 exact ⟨u,r1,r2,r3.lowI (hl c (mem_of_get hc)) hμ,fun n k cs E e=>by have:=hno c (mem_of_get hc);rw [e] at this;simp [PV.ownB] at this⟩
theorem MapAt.lent {S B B' : Nat→Prop} {Φ:Imm} {μ μ' : Nat→Option Nat} {ω ω' : Nat→Option Who} {w:World} {id:Nat} {X:PMap} (h:MapAt B Φ μ ω w id X) (hs:S id) (hl:LowM S X) (hno:∀es clock,X = .map es clock→∀e∈es,e.2.2.ownB=false) (hμ:∀i,S i→∀g,μ i=some g→μ' i=some g) (hω:∀g,μ id=some g→ω g=some (.box id)→ω' g=some (.box id)∧B' g):MapAt B' Φ μ' ω' w id X:=by
 obtain ⟨g,h1,h2,h3,h4,h5⟩:=h
 obtain ⟨k1,k2⟩:=hω g h1 h3
 refine ⟨g,hμ _ hs _ h1,k2,k1,h4,?_⟩
 cases X with
 |map es clock=>
  obtain ⟨e0,ents,e1,e2,e3⟩:=h5
  refine ⟨e0,ents,e1,e2,fun j s k c hj=>?_⟩
  obtain ⟨e,f1,f2,f3,f4,f5⟩:=e3 j s k c hj
  have:=hl _ (mem_of_get hj)
  exact ⟨e,f1,f2,f3.lowI this.1 hμ,f4.lowI this.2 hμ,fun n kk cs E ec=>by have:=hno es clock rfl _ (mem_of_get hj);simp only [ec] at this;simp [PV.ownB] at this⟩
 |iter mid since seen last=>
  obtain ⟨gm,e1,e2⟩:=h5
  exact ⟨gm,hμ _ hl _ e1,e2⟩
structure LentOK (given:List (Nat×List PV)) (gm:List (Nat×PMap)):Prop where
 nd:(ResIds given gm).Nodup
 lowb:∀x∈given,∀c∈x.2,LowI (fun i=>i∈ResIds given gm) c
 lowm:∀x∈gm,LowM (fun i=>i∈ResIds given gm) x.2
 nob:∀x∈given,∀c∈x.2,c.ownB=false
 nom:∀x∈gm,∀es clock,x.2 = .map es clock→∀e∈es,e.2.2.ownB=false
theorem LentOK.nil:LentOK [] []:=⟨by simp [ResIds],by simp,by simp,by simp,by simp⟩
theorem lentB_at {given:List (Nat×List PV)} {gm:List (Nat×PMap)} {B:Nat→Prop} {Φ:Imm} {μ:Nat→Option Nat} {ω:Nat→Option Who} {w:World} (hgb:∀x∈given,BoxAt B Φ μ ω w x.1 x.2) (hgm:∀x∈gm,MapAt B Φ μ ω w x.1 x.2) {i:Nat} (hi:i∈ResIds given gm):∃g,μ i=some g∧ω g=some (.box i)∧(∀j,Φ g j=none)∧g < w.heap.size:=by
 rcases List.mem_append.1 hi with hi|hi
 ·obtain ⟨x,hx,rfl⟩:=List.mem_map.1 hi
  obtain ⟨g,cur,T,h1,h2,h3,h4,h5,h6,h7⟩:=hgb x hx
  exact ⟨g,h1,h4,h5,(Array.getElem?_eq_some_iff.1 h2).1⟩
 ·obtain ⟨x,hx,rfl⟩:=List.mem_map.1 hi
  obtain ⟨g,h1,h2,h3,h4,h5⟩:=hgm x hx
  refine ⟨g,h1,h3,h4,?_⟩
  obtain ⟨xi,X⟩:=x
  cases X with
  |map es clock=>
   obtain ⟨e0,ents,e1,e2,e3⟩:=h5
   exact (Array.getElem?_eq_some_iff.1 e1).1
  |iter mid since seen last=>
   obtain ⟨gm,e1,e2⟩:=h5
   exact (Array.getElem?_eq_some_iff.1 e2).1
theorem lentB_of {given:List (Nat×List PV)} {gm:List (Nat×PMap)} {B:Nat→Prop} {Φ:Imm} {μ:Nat→Option Nat} {ω:Nat→Option Who} {w:World} (hgb:∀x∈given,BoxAt B Φ μ ω w x.1 x.2) (hgm:∀x∈gm,MapAt B Φ μ ω w x.1 x.2) {g:Nat} (h:LentB μ (ResIds given gm) g):∃i∈ResIds given gm,μ i=some g∧ω g=some (.box i)∧(∀j,Φ g j=none)∧g < w.heap.size:=by
 obtain ⟨i,hi,hg⟩:=h
 obtain ⟨g',h1,h2⟩:=lentB_at hgb hgm hi
 rw [hg] at h1;cases h1
 exact ⟨i,hi,hg,h2⟩
def RetJG (T:Tab) (rs:List ResultVar) (S:List (List PV)→Prop) (given:List (Nat×List PV)) (gm:List (Nat×PMap)):Exit→PS→Come→Prop
 | .ret,σ,κ=>((∃r,presult T σ rs=some r)∧∀xs,κ=some xs→S xs)∧AllB σ (fun _=>true) given∧AllM σ (fun _=>true) gm
 | .normal,σ,κ=>((∃r,presult T σ rs=some r)∧∀xs,κ=some xs→S xs)∧AllB σ (fun _=>true) given∧AllM σ (fun _=>true) gm
 |_,_,_=>False
open Classical in
theorem itspecG_of_pwj (hT:T=tabOf P) {f:FuncId} {fn:Func} {c:Code} {caps:List PV} {given:List (Nat×List PV)} {gm:List (Nat×PMap)} {A S:List (List PV)→Prop} (hf:P.funcs[f]? = some fn) (hb:fn.body=some c) (hcb:callB P f=true) (hlow:∀p∈caps,LowI (fun i=>i∈ResIds given gm) p) (hno:∀p∈caps,p.ownB=false) (hn:caps.length+1≤fn.ntmps)
  (hbig:∀i∈ResIds given gm,1000000≤i) (hok:LentOK given gm)
  (h:∀{Lb:Nat→Prop} (E:ItEnv) (Φ0:Ent) (W:World) (l:Nat),(∀b,Old Φ0 W b→¬Mix Φ0.imm b)→YOK P E l A Φ0.imm Lb W.heap.size→Φ0.round=none→PWJ E Lb Φ0 W P fn.ntmps c (RetJG T fn.results.toList S given gm) (initH (.val (.func (.yield l) #[] #[]) :: caps) given gm) (some [])):ItSpecG P f caps given gm A S:=by
 refine ⟨hcb,fun E l Φe μ ω w vs himm hgl hrep hgb hgmm hy hJ=>(callsIn_wide (n:=0)).1 (callsIn_of_wp_marks hf hb trivial ?_)⟩
 have hnd1:(given.map (·.1)).Nodup∧(gm.map (·.1)).Nodup:=by have:=hok.nd;unfold ResIds at this;rw [List.nodup_append] at this;exact ⟨this.1,this.2.1⟩
 have hext:∀b o u,Φe b o=some u→b < w.heap.size:=fun b o u e=>World.block_lt_of_cell? _ _ (himm b o u e)
 have hLn:∀g,LentB μ (ResIds given gm) g→∃i∈ResIds given gm,μ i=some g∧ω g=some (.box i)∧(∀j,Φe g j=none)∧g < w.heap.size:=fun g hg=>by
  obtain ⟨i,h1,h2,h3,h4,h5⟩:=lentB_of hgb hgmm hg
  exact ⟨i,h1,h2,h3,h4,h5⟩
 let μ0:Nat→Option Nat:=fun i=>if i∈ResIds given gm then μ i else none
 let ω0:Nat→Option Who:=fun g=>if LentB μ (ResIds given gm) g then ω g else none
 let Φ0:Ent:=⟨Φe,fun b=>b < w.heap.size∧Mix Φe b,μ0,hgl,fun g hg=>hg.2,[],none⟩
 have hgiv:∀b,Old Φ0 w b→¬Mix Φ0.imm b:=fun b hb hm=>hb.2 ⟨hb.1,hm⟩
 have hμ:∀i,i∈ResIds given gm→∀g,μ i=some g→μ0 i=some g:=fun i hi g e=>by show (if _ then _ else _)=_;rw [if_pos hi];exact e
 have hω0:∀g q,ω0 g=some q→ω g=some q∧LentB μ (ResIds given gm) g:=by
  intro g q e
  have e' : (if LentB μ (ResIds given gm) g then ω g else none)=some q:=e
  split at e'
  ·rename_i hg;exact ⟨e',hg⟩
  ·cases e'
 have hLm:∀g,LentB μ (ResIds given gm) g→Φ0.giv g:=fun g hg=>by
  obtain ⟨i,-,-,-,h4,h5⟩:=hLn g hg
  exact ⟨h5,fun o u e=>by rw [h4] at e;cases e⟩
 have hω:∀i,i∈ResIds given gm→∀g,μ i=some g→ω g=some (.box i)→ω0 g=some (.box i)∧Mine Φ0 w g:=by
  intro i hi g e1 e2
  have hg:LentB μ (ResIds given gm) g:=⟨i,hi,e1⟩
  refine ⟨?_, .inr (hLm g hg)⟩
  show (if _ then _ else _)=_
  rw [if_pos hg];exact e2
 have hrep' : RepL Φe μ (.val (.func (.yield l) #[] #[]) :: caps) (.func (.yield l) #[] #[] :: vs):=RepL.cons (.val _ rfl) hrep
 have hargs:(#[.func (.yield l) #[] #[]] ++ vs.toArray:Array Value)=(.func (.yield l) #[] #[] :: vs:List Value).toArray:=by
  apply Array.ext'; simp
 rw [hargs]
 have hlow' : ∀p∈(PV.val (.func (.yield l) #[] #[]) :: caps),LowI (fun i=>i∈ResIds given gm) p:=by
  intro p hp
  rcases List.mem_cons.1 hp with rfl|hp
  ·exact .val _
  ·exact hlow p hp
 have hno' : ∀p∈(PV.val (.func (.yield l) #[] #[]) :: caps),p.ownB=false:=by
  intro p hp
  rcases List.mem_cons.1 hp with rfl|hp
  ·rfl
  ·exact hno p hp
 have hg:RelG Φ0 w fn.ntmps Φe μ0 ω0 (initH (.val (.func (.yield l) #[] #[]) :: caps) given gm) { tmps:=(.func (.yield l) #[] #[] :: vs:List Value).toArray ++ Array.replicate (fn.ntmps - (.func (.yield l) #[] #[] :: vs:List Value).toArray.size) undef,defers := [] } w:=by
  refine ⟨Kept.refl _ _,⟨rfl,fun _ e=>by cases e⟩,by simp [hrep.1];omega,himm,fun _ _ _=>rfl,fun t=>?_,fun t n k cs E e=>?_,fun id bs e=>?_,fun id eb em=>?_,fun g p e=>?_,fun id g e=>?_,fun id g e _=>e,fun b o u e=>⟨e,hext b o u e⟩,fun id X e=>?_,fun g p e=>.inr (hLm g (hω0 g p e).2)⟩
  ·simp only [initH]
   cases ht:(PV.val (.func (.yield l) #[] #[]) :: caps)[t]? with
   |none=>exact .undef _
   |some p=>
    obtain ⟨u,hu,hru⟩:=hrep'.get ht
    have hlt:t < (.func (.yield l) #[] #[] :: vs:List Value).length:=(List.getElem?_eq_some_iff.1 hu).1
    have:((.func (.yield l) #[] #[] :: vs:List Value).toArray ++ Array.replicate (fn.ntmps - (.func (.yield l) #[] #[] :: vs:List Value).toArray.size) undef).getD t undef=u:=by
     rw [Array.getD_eq_getD_getElem?,Array.getElem?_append_left (by simpa using hlt)]
     rw [List.getElem?_toArray,hu];rfl
    rw [this]
    exact hru.lowI (hlow' p (mem_of_get ht)) hμ
  ·simp only [initH] at e
   cases ht:(PV.val (.func (.yield l) #[] #[]) :: caps)[t]? with
   |none=>rw [ht] at e;simp at e
   |some p=>
    rw [ht] at e
    simp at e
    have:=hno' p (mem_of_get ht)
    rw [e] at this;simp [PV.ownB] at this
  ·simp only [initH] at e
   rcases setb_cases given _ hnd1.1 e with h1|⟨-,h1⟩
   ·have hi:id∈ResIds given gm:=List.mem_append.2 (.inl (List.mem_map.2 ⟨_,h1,rfl⟩))
    exact (hgb _ h1).lent (S:=fun i=>i∈ResIds given gm) hi (hok.lowb _ h1) (hok.nob _ h1) hμ (fun g e1 e2=>hω id hi g e1 e2)
   ·cases h1
  ·simp only [initH] at eb em
   have hi:id∉ResIds given gm:=by
    intro hi
    rcases List.mem_append.1 hi with hi|hi
    ·obtain ⟨x,hx,rfl⟩:=List.mem_map.1 hi
     rw [setb_get given _ hnd1.1 x hx] at eb;cases eb
    ·obtain ⟨x,hx,rfl⟩:=List.mem_map.1 hi
     rw [setb_get gm _ hnd1.2 x hx] at em;cases em
   show (if _ then _ else _)=_
   rw [if_neg hi]
  ·obtain ⟨i,-,-,-,-,h5⟩:=hLn g (hω0 g p e).2
   exact h5
  ·have e' : (if id∈ResIds given gm then μ id else none)=some g:=e
   split at e'
   ·rename_i hi;exact hbig id hi
   ·cases e'
  ·simp only [initH] at e
   rcases setb_cases gm _ hnd1.2 e with h1|⟨-,h1⟩
   ·have hi:id∈ResIds given gm:=List.mem_append.2 (.inr (List.mem_map.2 ⟨_,h1,rfl⟩))
    exact (hgmm _ h1).lent (S:=fun i=>i∈ResIds given gm) hi (hok.lowm _ h1) (hok.nom _ h1) hμ (fun g e1 e2=>hω id hi g e1 e2)
   ·cases h1
 have hoff:offI Φe ω0=Φe:=by
  funext b o
  by_cases hh:∃p,ω0 b=some p
  ·obtain ⟨p,hp⟩:=hh
   obtain ⟨i,-,-,-,h4,-⟩:=hLn b (hω0 b p hp).2
   rw [h4]
   exact freshI_own ⟨p,hp⟩
  ·exact freshI_eq fun p e=>hh ⟨p,e⟩
 have hrel:RelJ E (LentB μ (ResIds given gm)) Φ0 w fn.ntmps (some []) (initH (.val (.func (.yield l) #[] #[]) :: caps) given gm) { tmps:=(.func (.yield l) #[] #[] :: vs:List Value).toArray ++ Array.replicate (fn.ntmps - (.func (.yield l) #[] #[] :: vs:List Value).toArray.size) undef,defers := [] } w:=
  ⟨Φ0,w,Φe,μ0,ω0,LentB μ (ResIds given gm),Later.refl _ _,hg,by rw [hoff];exact hJ,fun g h=>⟨.inr h,by obtain ⟨i,-,-,-,-,h5⟩:=hLn g h;exact h5⟩,fun g p e=>(hω0 g p e).2,fun b o u hb e=>(by have:=hext b o u e;omega),fun b o hb _=>rfl,fun m hm=>(by cases hm),fun g h=>h⟩
 refine wpIn_mono (h E Φ0 w l hgiv hy rfl _ w hrel) ?_
 rintro e a' w0 ⟨σ',κ,hq,hr⟩
 have fin:(((∃r,presult T σ' fn.results.toList=some r)∧∀xs,κ=some xs→S xs)∧AllB σ' (fun _=>true) given∧AllM σ' (fun _=>true) gm)→LeavesInM (FW none) 0 P fn a'.tmps (fun e w' => ∃v κ K I,e = .returned v∧(∀xs,κ=some xs→S xs)∧E.J κ I K w'∧(∀g,LentB μ (ResIds given gm) g→I g)∧(∀b o u,K b o=some u→w'.cell? ⟨b,o,none⟩=some u) ∧
   (∀b o,b < w.heap.size→¬LentB μ (ResIds given gm) b→K b o=Φe b o)∧(∀b o u,w.heap.size≤b→K b o=some u→I b)∧GlobOK K∧(∀x∈given,BoxAt (fun _=>True) K μ ω w' x.1 x.2)∧(∀x∈gm,MapAt (fun _=>True) K μ ω w' x.1 x.2)) a'.defers .returning w0:=by
  rintro ⟨⟨⟨r,hpr⟩,hS⟩,hAb,hAm⟩
  obtain ⟨Φ1,W1,Φ,μ',ω',I,hl,hg,hJ,h1,h2,h3,h4,h5,h6⟩:=hr
  obtain ⟨ms,hd1,hd2,hd3,hg'⟩:=RelG.shut (Φ0:=Φ0) rfl rfl hl hg
  rw [hd1]
  refine leaves_shut ms w0 hd2 hd3 ?_
  obtain ⟨v,r1,r2,r3⟩:=results_run hT hg' hpr
  have hkm:∀i,i∈ResIds given gm→(σ'.b i≠none∨σ'.m i≠none)→∃g,μ i=some g∧ω g=some (.box i)∧μ' i=some g:=by
   intro i hi hk
   obtain ⟨g,e1,e2,-⟩:=lentB_at hgb hgmm hi
   exact ⟨g,e1,e2,hg.kmu i g (by rw [hl.mu];exact hμ i hi g e1) hk⟩
  have hKn:∀i∈ResIds given gm,σ'.b i≠none∨σ'.m i≠none:=by
   intro i hi
   rcases List.mem_append.1 hi with hi|hi
   ·obtain ⟨x,hx,rfl⟩:=List.mem_map.1 hi
    left;rw [(hAb.mem x hx).2];simp
   ·obtain ⟨x,hx,rfl⟩:=List.mem_map.1 hi
    right;rw [(hAm.mem x hx).2];simp
  have hb1:∀i,i∈ResIds given gm→∀g,μ' i=some g→μ i=some g:=by
   intro i hi g e
   obtain ⟨g',e1,e2,e3⟩:=hkm i hi (hKn i hi)
   rw [e] at e3;cases e3;exact e1
  have hb2:∀i,i∈ResIds given gm→∀g,μ' i=some g→ω' g=some (.box i)→ω g=some (.box i)∧True:=by
   intro i hi g e _
   obtain ⟨g',e1,e2,e3⟩:=hkm i hi (hKn i hi)
   rw [e] at e3;cases e3;exact ⟨e2,trivial⟩
  refine ⟨v,r1,v,κ,Φ,I,rfl,hS,E.step hJ ?_ (fun g hh=>.inl hh) (fun b o u e _=>(offI_some.1 e).2) hg'.imm,h6,hg'.imm,h4,h3,hg'.glob,fun x hx=>?_,fun x hx=>?_⟩
  ·obtain ⟨k1,k2,k3⟩:=shut_os ms w0
   refine ⟨k1,k2,k3,Nat.le_of_eq (shut_size ms w0).symm,fun k hk=>shut_other ms w0 k fun hm=>hk.2 (h5 k ?_)⟩
   obtain ⟨ms',e1,-,-⟩:=hl.marks
   have e2:Φ1.marks=ms':=by rw [e1];exact List.append_nil _
   have e3:=hg.defers.1
   rw [hd1,e2] at e3
   have:ms=ms':=by
    have hinj:∀(l l' : List Nat),l.map collD=l'.map collD→l=l':=by
     intro l
     induction l with
     |nil=>intro l' e;cases l' with
      |nil=>rfl
      |cons=>cases e
     |cons x l ih=>intro l' e;cases l' with
      |nil=>cases e
      |cons y l' =>
       simp only [List.map_cons,List.cons.injEq] at e
       have hxy:x=y:=by
        have:=e.1
        simp only [collD,Deferred.mk.injEq,Target.collected.injEq] at this
        exact this.1
       rw [hxy,ih l' e.2]
    exact hinj _ _ e3
   rw [e2,←this];exact hm
  ·have hi:x.1∈ResIds given gm:=List.mem_append.2 (.inl (List.mem_map.2 ⟨x,hx,rfl⟩))
   exact (hg'.box x.1 x.2 (hAb.mem x hx).2).lent (S:=fun i=>i∈ResIds given gm) hi (hok.lowb x hx) (hok.nob x hx) hb1 (hb2 x.1 hi)
  ·have hi:x.1∈ResIds given gm:=List.mem_append.2 (.inr (List.mem_map.2 ⟨x,hx,rfl⟩))
   exact (hg'.map x.1 x.2 (hAm.mem x hx).2).lent (S:=fun i=>i∈ResIds given gm) hi (hok.lowm x hx) (hok.nom x hx) hb1 (hb2 x.1 hi)
 cases e with
 |ret=>exact fin hq
 |normal=>exact fin hq
 |_=>exact hq.elim
theorem PWJ.mono {κ:Come} {σ:PS} {c:Code} {Q Q' : Exit→PS→Come→Prop} {M:Nat} {E:ItEnv} {Lb:Nat→Prop} {Φ0:Ent} {W:World} (h:PWJ E Lb Φ0 W P M c Q σ κ) (hq:∀e σ κ,Q e σ κ→Q' e σ κ):PWJ E Lb Φ0 W P M c Q' σ κ:=fun a w hr=>wpIn_mono (h a w hr) fun e a' w' ⟨σ',κ',h1,h2⟩=>⟨σ',κ',hq _ _ _ h1,h2⟩
end
section
open Go.RowKit
variable {Φ0:Ent} {W:World} {M:Nat} {Φ:Imm} {μ:Nat→Option Nat} {ω:Nat→Option Who} {σ:PS} {a:Act} {w:World} {P:Program} {T:Tab}
theorem RelG.boxTake (h:RelG Φ0 W M Φ μ ω σ a w) {id:Nat} {bs cs r:List PV} (hb:σ.b id=some bs) (hc:bs=cs ++ r):RelG Φ0 W M Φ μ ω { σ with b:=upd σ.b id (some cs) } a w:=by
 subst hc
 refine { h with box:=fun i bs' e=>?_,gone:=fun i e em=>?_,kmu:=fun i g e hi=>?_ }
 ·by_cases hi:i=id
  ·subst hi
   simp only [upd_if,if_true] at e
   cases e
   obtain ⟨g,cur,T,h1,h2,h3,h4,h5,h6,h7⟩:=h.box i _ hb
   refine ⟨g,cur,T,h1,h2,h3,h4,h5,by simp at h6;omega,fun j c hc=>h7 j c ?_⟩
   rw [List.getElem?_append_left (List.getElem?_eq_some_iff.1 hc).1];exact hc
  ·simp only [upd_if,if_neg hi] at e;exact h.box i bs' e
 ·by_cases hi:i=id
  ·subst hi;simp only [upd_if,if_true] at e;cases e
  ·simp only [upd_if,if_neg hi] at e;exact h.gone i e em
 ·by_cases hi' : i=id
  ·subst hi'; exact h.kmu i g e (.inl (by rw [hb];simp))
  ·simp only [upd_if,if_neg hi'] at hi;exact h.kmu i g e hi
end
section
open Go.RowKit
variable {P:Program} {T:Tab} {σ:PS} {o:Oper} {i base:Nat} {ops:Array Oper} {ok:Nat→Nat→Bool} {rest:List (Nat×Oper)} {K:PS→Prop}
theorem PWops.strM {d n e kk by_ id o' : Nat} {zr bs:List PV} {l:List Int} {s:ByteArray} {x:Operand} {ts td:TypeId} {si di ei:TyI} (hg:pguard ops σ o=some true) (hd:o.dst=some d) (hop:o.op = .convert ts td x) (hx:pev σ x = .msl id o' n 1) (hbs:(σ.only (ok i)).b id=some bs) (hs:T.at ts=some si) (ht:T.at td=some di) (hk1:si.kind = .slice e kk by_ zr) (hk2:di.kind = .str) (he:T.at e=some ei) (hke:ei.kind = .int .u8) (htd:Nat.beq td strT=true) (hb:σ.freeB (base+i)=true)
  (hle:o' + n≤bs.length) (hl:((bs.drop o').take n).map PV.bare=l.map pbyte) (hr:strI l=s) (kn:PWops P T ops base ok rest K (σ.put d (pstr s))):PWops P T ops base ok ((i,o) :: rest) K σ:=by
 refine PWops.stepM hg (E:=⟨.val (.string (strI l)),[],none,[]⟩) ?_ hb (by rw [hd,hr];exact kn)
 have hl' : bytesOf (((bs.drop o').take n).map PV.bare)=some l:=by rw [hl];exact bytesOf_map l
 simp only [hop,presM,htd,if_true,hs,ht,pev_only,hx,pstrM,hk1,hk2,he,hbs,hke,hle,and_self,hl',Option.map_some]
end
section
open Go.RowKit
inductive FlatV:PV→Prop
 |undef:FlatV .undef
 |val (v:Value):FlatV (.val v)
 |nilsl:FlatV .nilsl
 |ptr (id off:Nat):FlatV (.ptr id off)
 |msl (id off n k:Nat):FlatV (.msl id off n k)
 |mref (id:Nat):FlatV (.mref id)
 |agg (cs:List PV) (h:∀c∈cs,FlatV c):FlatV (.agg cs)
 |tup (cs:List PV) (h:∀c∈cs,FlatV c):FlatV (.tup cs)
 |fn (f:FuncId) (cs:List PV) (h:∀c∈cs,FlatV c):FlatV (.fn f cs)
theorem Rep.flatV {Φ Φ' : Imm} {μ μ' : Nat→Option Nat} (hμ:∀i g,μ i=some g→μ' i=some g) {p:PV} {v:Value} (h:Rep Φ μ p v) (hl:FlatV p):Rep Φ' μ' p v:=by
 induction h with
 |undef v=>exact .undef v
 |val v h=>exact .val v h
 |nilsl=>exact .nilsl
 |sl0=>cases hl
 |sl=>cases hl
 |ptr id off g h=>exact .ptr id off g (hμ _ _ h)
 |msl id off n k a cap h h2 h3=>exact .msl id off n k a cap (fun hn=>by obtain ⟨g,h1,h4⟩:=h hn;exact ⟨g,hμ _ _ h1,h4⟩) h2 h3
 |ep=>cases hl
 |fn f cs us hr ih=>cases hl with|fn _ _ hl=>exact .fn f cs us (fun j c hj=>ih j c hj (hl c (mem_of_get hj)))
 |agg cs us hr ih=>cases hl with|agg _ hl=>exact .agg cs us (fun j c hj=>ih j c hj (hl c (mem_of_get hj)))
 |tup cs us hr ih=>cases hl with|tup _ hl=>exact .tup cs us (fun j c hj=>ih j c hj (hl c (mem_of_get hj)))
 |mref id g h=>exact .mref id g (hμ _ _ h)
def Stands (c:PV):Prop:=FlatV c∨∃n k cs E,c = .sl n k cs (some E)∧E < 1000000∧∀x∈cs,FlatV x
theorem Stands.rep {c:PV} (hs:Stands c) {B:Nat→Prop} {Φ Φ' : Imm} {μ μ' : Nat→Option Nat} {ω:Nat→Option Who} {w:World} {q:Who} {v:Value} (hμ:∀i g,μ i=some g→μ' i=some g) (hr:Rep Φ μ c v) (ho:∀n k cs E,c = .sl n k cs (some E)→OwnAt B Φ ω w q n k E v) (hΦ:∀g,ω g=some q→∀j,Φ' g j=Φ g j):Rep Φ' μ' c v:=by
 rcases hs with hs|⟨n,k,cs,E,rfl,hE,hf⟩
 ·exact hr.flatV hμ hs
 ·have h0:∀ad cap,cap≤maxLen→n=0→v = .slice ad 0 cap→Rep Φ' μ' (.sl n k cs (some E)) v:=by
   intro ad cap hc hn hv
   obtain ⟨_,_,_,_,_,_,_,_,q3,_⟩:=hr.sl_inv
   subst hn hv
   obtain rfl:cs = []:=List.eq_nil_of_length_eq_zero (by omega)
   exact .sl0 _ _ _ _ hc
  rcases ho n k cs E rfl with ⟨h1,h2⟩|⟨g,cap,cur,h1,h2,h3,h4,h5,h6,h7,h8⟩|⟨h1,-⟩
  ·exact h0 none 0 (by unfold maxLen;omega) h2 h1
  ·rcases Nat.eq_zero_or_pos n with hn|hn
   ·exact h0 _ cap h5 hn (by rw [h1,hn])
   ·obtain ⟨a,b,off,cap',us,hv,q1,q2,q3,q4,q5,q6⟩:=hr.sl_inv
    rw [h1] at hv
    cases hv
    have e:=q4 hn
    cases e
    rw [h1]
    refine .sl n k cs _ _ _ _ us q3 q1 q2 (fun j hj=>?_) (fun j c hc=>(q6 j c hc).flatV hμ (hf c (mem_of_get hc)))
    rw [hΦ g h7];exact q5 j hj
  ·exact absurd h1 (Nat.not_le.2 hE)
end
section
open Go.RowKit
variable {Φ0:Ent} {W:World} {M:Nat} {Φ:Imm} {μ:Nat→Option Nat} {ω:Nat→Option Who} {σ:PS} {a:Act} {w:World} {P:Program} {T:Tab}
theorem Sub.freezeI {σ' : PS} {id s off:Nat} {cs:List PV} (hb:σ.b id=some cs) (hs:σ.t s = .ptr id off) (hlow:∀c∈cs,LowI (Kn σ') c) (hsub:SubR (fun i=>i) (Kn σ') σ σ') (hid:σ'.freeB id=true):Sub M σ (σ'.put s (.ep cs off)):=by
 rintro Φ0 W a w ⟨Φ,μ,ω,hg⟩
 have h1:=hsub.rel (fun i hi=>hi.spec) (fun i j _ _ e=>e) (fun i _ _ _=>rfl) hg
 obtain ⟨g,cur,Ty,b1,b2,b3,b4,b5,b6,b7⟩:=hg.box id cs hb
 have hun:unren (fun i=>i) (Kn σ') (ω g)=none:=by
  rw [b4]
  unfold unren
  split
  ·rename_i h2;cases h2
  ·split
   ·rename_i hh
    obtain ⟨q,⟨i,hi,hq⟩,e⟩:=hh
    exfalso
    rcases hq with rfl|⟨j,rfl⟩
    ·simp only [renW,Option.some.injEq,Who.box.injEq] at e
     subst e
     rw [Kn,hid] at hi;cases hi
    ·simp [renW] at e
   ·rfl
 have h2:=h1.still b2 b3 hun b5
 refine ⟨_,_,_,h2.see ?_ rfl⟩
 have hv:=hg.tmps s
 rw [hs] at hv
 obtain ⟨g',hg',hvv⟩:=hv.ptr_inv
 rw [b1] at hg'; cases hg'
 rw [hvv]
 have e0:(⟨g,off,none⟩:Addr)=⟨g,0+off,none⟩:=by rw [Nat.zero_add]
 rw [e0]
 refine .ep cs off g 0 (fun j=>cur.getD j undef) (fun j hj=>?_) (fun j c hc=>?_)
 ·unfold immRow
  rw [if_pos rfl,Nat.zero_add,Array.getD_eq_getD_getElem?]
  rw [Array.getElem?_eq_getElem (by omega)];rfl
 ·obtain ⟨u,r1,r2,r3,-⟩:=b7 j c hc
  rw [Array.getD_eq_getD_getElem?,r1]
  refine Rep.mono (Φ:=Φ) (fun b o u e=>?_) (fun _ _ e=>e) (r3.lowI (hlow c (mem_of_get hc)) (fun i hi g e=>(if_pos hi).trans e))
  unfold immRow
  rw [if_neg]
  ·exact e
  ·rintro rfl;rw [b5] at e;cases e
theorem Sub.freezeP {σ' : PS} {id s off:Nat} {cs:List PV} (hb:σ.b id=some cs) (hs:σ.t s = .ptr id off) (hlow:∀c∈cs,Low c) (hsub:SubR (fun i=>i) (Kn σ') σ σ') (hid:σ'.freeB id=true):Sub M σ (σ'.put s (.ep cs off)):=
 Sub.freezeI hb hs (fun c hc=>(hlow c hc).lowI) hsub hid
theorem PW.freezeI {σ' : PS} {id s off:Nat} {cs:List PV} {c:Code} {Q:Exit→PS→Prop} (hb:σ.b id=some cs) (hs:σ.t s = .ptr id off) (hlow:∀c∈cs,LowI (Kn σ') c) (hsub:SubR (fun i=>i) (Kn σ') σ σ') (hid:σ'.freeB id=true) (h:PW P M c Q (σ'.put s (.ep cs off))):PW P M c Q σ:=
 h.sub (Sub.freezeI hb hs hlow hsub hid)
theorem PW.freezeP {σ' : PS} {id s off:Nat} {cs:List PV} {c:Code} {Q:Exit→PS→Prop} (hb:σ.b id=some cs) (hs:σ.t s = .ptr id off) (hlow:∀c∈cs,Low c) (hsub:SubR (fun i=>i) (Kn σ') σ σ') (hid:σ'.freeB id=true) (h:PW P M c Q (σ'.put s (.ep cs off))):PW P M c Q σ:=
 h.sub (Sub.freezeP hb hs hlow hsub hid)
end
section
open Go.RowKit
variable {P:Program} {T:Tab} {σ:PS} {o:Oper} {i base:Nat} {ops:Array Oper} {ok:Nat→Nat→Bool} {rest:List (Nat×Oper)} {K:PS→Prop}
theorem PWops.bytS {d e kk by_ n:Nat} {zr out:List PV} {s:ByteArray} {x:Operand} {ts td:TypeId} {si di ei:TyI} (hg:pguard ops σ o=some true) (hd:o.dst=some d) (hop:o.op = .convert ts td x) (hx:pev σ x = .val (.string s)) (hs:T.at ts=some si) (ht:T.at td=some di) (hk1:si.kind = .str) (hk2:di.kind = .slice e kk by_ zr) (he:T.at e=some ei) (hke:ei.kind = .int .u8) (htd:Nat.beq td strT=false) (hb:σ.freeB (base+i)=true) (hsz:s.size≤1000000000) (hn:s.size=n) (hout:strC s=out)
  (kn:PWops P T ops base ok rest K (σ.put d (.sl n 1 out none))):PWops P T ops base ok ((i,o) :: rest) K σ:=by
 subst hout hn
 refine PWops.stepM hg (E:=⟨.sl s.size 1 (strC s) none,[],none,[]⟩) ?_ hb (by rw [hd];exact kn)
 simp only [hop,presM,htd,Bool.false_eq_true,if_false,hs,ht,pev_only,hx,pbytS,hk1,hk2,he,hke,if_pos hsz,Option.map_some]
theorem PWops.slcE {d n k:Nat} {e:TypeId} {ag:Bool} {cs:List PV} {x:Operand} {t:TypeId} {ti:TyI} (hg:pguard ops σ o=some true) (hd:o.dst=some d) (hop:o.op = .slice t x none none none) (hx:pev σ x = .ep cs 0) (ht:T.at t=some ti) (hk:ti.kind = .arr n e k ag) (hb:σ.freeB (base+i)=true) (hl:cs.length=n * k) (hn:0 < n∧n≤1000000000)
  (kn:PWops P T ops base ok rest K (σ.put d (.sl n k cs (some (e+1000000))))):PWops P T ops base ok ((i,o) :: rest) K σ:=by
 refine PWops.stepM hg (E:=⟨.sl n k cs (some (e+1000000)),[],none,[]⟩) ?_ hb (by rw [hd];exact kn)
 simp only [hop,presM,ht,pev_only,hx,Option.map_none,parr,hk]
 rw [if_pos ⟨hl,hn.1,hn.2⟩];rfl
end
section
open Go.RowKit
def renN:List (Nat×Nat)→Nat→Nat
 | [],i=>i
 |(a,b) :: l,i=>cond (Nat.beq i a) b (renN l i)
theorem renN_mem:∀{l:List (Nat×Nat)} {i:Nat},i∈l.map (·.1)→(i,renN l i)∈l
 | [],i,h=>by simp at h
 |(a,b) :: l,i,h=>by
  unfold renN
  cases e:Nat.beq i a with
  |true=>
   have e':=Nat.eq_of_beq_eq_true e
   subst e'; exact List.mem_cons_self ..
  |false=>
   refine List.mem_cons_of_mem _ (renN_mem ?_)
   rcases List.mem_cons.1 h with rfl|h
   ·rw [Nat.beq_refl] at e;cases e
   ·exact h
theorem renN_inj {l:List (Nat×Nat)} (h2:(l.map (·.2)).Nodup):∀i∈l.map (·.1),∀j∈l.map (·.1),renN l i=renN l j→i=j:=by
 intro i hi j hj e
 have h3:=renN_mem hi
 have h4:=renN_mem hj
 rw [e] at h3
 have key:∀{l:List (Nat×Nat)} {a b c:Nat},(l.map (·.2)).Nodup→(a,c)∈l→(b,c)∈l→a=b:=by
  intro l
  induction l with
  |nil=>intro a b c _ h;simp at h
  |cons x l ih=>
   intro a b c hn ha hb
   simp only [List.map_cons,List.nodup_cons] at hn
   rcases List.mem_cons.1 ha with ha|ha<;>rcases List.mem_cons.1 hb with hb|hb
   ·rw [←ha] at hb;cases hb;rfl
   ·exact absurd (List.mem_map.2 ⟨_,hb,by rw [←ha]⟩) hn.1
   ·exact absurd (List.mem_map.2 ⟨_,ha,by rw [←hb]⟩) hn.1
   ·exact ih hn.2 ha hb
 exact key h2 h3 h4
end
section
open Go.RowKit
variable {S:Nat→Prop}
theorem li_nil:∀p∈([]:List PV),LowI S p:=by simp
theorem li_cons {p:PV} {ps:List PV} (h:LowI S p) (hs:∀q∈ps,LowI S q):∀q∈p :: ps,LowI S q:=by
 intro q hq
 rcases List.mem_cons.1 hq with rfl|hq
 ·exact h
 ·exact hs q hq
theorem li_low {ps:List PV} (h:∀p∈ps,Low p):∀p∈ps,LowI S p:=fun p hp=>(h p hp).lowI
theorem lb_nil:∀x∈([]:List (Nat×List PV)),∀p∈x.2,LowI S p:=by simp
theorem lb_cons {i:Nat} {bs:List PV} {l:List (Nat×List PV)} (h:∀p∈bs,LowI S p) (hs:∀x∈l,∀p∈x.2,LowI S p):∀x∈(i,bs) :: l,∀p∈x.2,LowI S p:=by
 intro x hx
 rcases List.mem_cons.1 hx with rfl|hx
 ·exact h
 ·exact hs x hx
theorem lm_nil:∀x∈([]:List (Nat×PMap)),LowM S x.2:=by simp
theorem lm_cons {i:Nat} {es:List (Nat×PV×PV)} {c:Nat} {l:List (Nat×PMap)} (h:∀e∈es,Low e.2.1∧Low e.2.2) (hs:∀x∈l,LowM S x.2):∀x∈(i,PMap.map es c) :: l,LowM S x.2:=by
 intro x hx
 rcases List.mem_cons.1 hx with rfl|hx
 ·exact fun e he=>⟨(h e he).1.lowI,(h e he).2.lowI⟩
 ·exact hs x hx
end
section
open Go.RowKit
variable {ρ:Nat→Nat} {S:Nat→Prop} {ps qs:List PV}
theorem ren_agg (h:RenL ρ S ps qs):Ren ρ S (.agg ps) (.agg qs):=.agg _ _ h.1 h.2
theorem ren_fn {f:FuncId} (h:RenL ρ S ps qs):Ren ρ S (.fn f ps) (.fn f qs):=.fn _ _ _ h.1 h.2
theorem ren_sl {n k:Nat} (h:RenL ρ S ps qs):Ren ρ S (.sl n k ps none) (.sl n k qs none):=.sl _ _ _ _ h.1 h.2
end
section
open Go.RowKit
theorem HCalls.at {P:Program} {f:FuncId} {args args' : List PV} {given given' res res' : List (Nat×List PV)} {gm gm' rm rm' : List (Nat×PMap)} {r r' : PV} (h:HCalls P f args given gm r res rm) (L:List (Nat×Nat)) (hd:(L.map (·.2)).Nodup) (hs:∀i∈ResIds res rm,i∈L.map (·.1)) (hs1:∀i∈given.map (·.1),i∈res.map (·.1)) (hs2:∀i∈gm.map (·.1),i∈rm.map (·.1))
  (ha:RenL (renN L) (fun i=>i∈ResIds given gm) args args') (hg:RenB (renN L) (fun i=>i∈ResIds given gm) given given') (hm:RenMs (renN L) (fun i=>i∈ResIds given gm) gm gm')
  (hr:Ren (renN L) (fun i=>i∈ResIds res rm) r r') (hres:RenB (renN L) (fun i=>i∈ResIds res rm) res res') (hrm:RenMs (renN L) (fun i=>i∈ResIds res rm) rm rm'):HCalls P f args' given' gm' r' res' rm':=
 h.ren (renN L) hs1 hs2 (fun i hi j hj e=>renN_inj hd i (hs i hi) j (hs j hj) e) ha hg hm hr hres hrm
def GivO (ω:Nat→Option Who) (ids:List Nat) (args:List PV) (g:Nat):Prop:=Giv ω ids g∨∃(i:Nat) (p:PV),args[i]? = some p∧p.ownB=true∧ω g=some (.tmp i)
def NewO (ω:Nat→Option Who) (w:World) (ids:List Nat) (args:List PV) (g:Nat):Prop:=w.heap.size≤g∨GivO ω ids args g
def OPost (Φ:Imm) (μ:Nat→Option Nat) (ω:Nat→Option Who) (w:World) (ids:List Nat) (args:List PV) (r:PV) (res:List (Nat×List PV)) (rm:List (Nat×PMap)) (e:Ending) (w' : World):Prop:=
 ∃v Φ' μ' ω',e = .returned v∧Rep Φ' μ' r v∧(∀b o u,Φ' b o=some u→w'.cell? ⟨b,o,none⟩=some u)∧(∀b o u,Φ b o=some u→Φ' b o=some u)∧(∀b o,b < w.heap.size→¬GivO ω ids args b→Φ' b o=Φ b o) ∧
  Kept (fun b=>b < w.heap.size∧¬GivO ω ids args b) w w'∧(∀id∈ids,μ' id=μ id)∧(∀id g,μ' id=some g→id∈ResIds res rm)∧(∀x∈res,BoxAt (NewO ω w ids args) Φ' μ' ω' w' x.1 x.2)∧(∀x∈rm,MapAt (NewO ω w ids args) Φ' μ' ω' w' x.1 x.2) ∧
  (∀g p,ω' g=some p→g < w'.heap.size∧NewO ω w ids args g)∧(∀n k cs E,r = .sl n k cs (some E)→OwnAt (NewO ω w ids args) Φ' ω' w' (.tmp 0) n k E v)
def OCalls (P:Program) (f:FuncId) (args:List PV) (given:List (Nat×List PV)) (gm:List (Nat×PMap)) (r:PV) (res:List (Nat×List PV)) (rm:List (Nat×PMap)):Prop:=
 callB P f=true∧∀(Φ:Imm) (μ:Nat→Option Nat) (ω:Nat→Option Who) (w:World) (vs:List Value),(∀b o u,Φ b o=some u→w.cell? ⟨b,o,none⟩=some u)→GlobOK Φ→RepL Φ μ args vs →
  (∀x∈given,BoxAt (fun _=>True) Φ μ ω w x.1 x.2)→(∀x∈gm,MapAt (fun _=>True) Φ μ ω w x.1 x.2)→(∀g p,ω g=some p→g < w.heap.size) →
  (∀(i n k:Nat) (cs:List PV) (E:TypeId) (v:Value),args[i]? = some (PV.sl n k cs (some E))→vs[i]? = some v→OwnAt (fun _=>True) Φ ω w (.tmp i) n k E v)→Calls P f vs.toArray w (OPost Φ μ ω w (ResIds given gm) args r res rm)
theorem own_mix {Φ:Imm} {μ:Nat→Option Nat} {n k g cap:Nat} {cs:List PV} {own:Option TypeId} (hr:Rep Φ μ (.sl n k cs own) (.slice (some ⟨g,0,none⟩) n cap)) (hf:∀j,n * k≤j→Φ g j=none) (hc:cs = []∨∃(j:Nat) (c:PV),cs[j]? = some c∧noI64 c=true):Mix Φ g:=by
 intro o u e
 obtain ⟨a,b,off,cap',us,hv,-,-,q3,q4,q5,q6⟩:=hr.sl_inv
 have ho:o < n * k:=by
  rcases Nat.lt_or_ge o (n * k) with h|h
  ·exact h
  ·rw [hf o h] at e;cases e
 have hn:0 < n:=by
  rcases Nat.eq_zero_or_pos n with h|h
  ·subst h;simp at ho
  ·exact h
 cases hv
 have h4:=q4 hn
 cases h4
 rcases hc with rfl|⟨j,c,hj,hc⟩
 ·simp at q3;omega
 ·have hjl:j < cs.length:=(List.getElem?_eq_some_iff.1 hj).1
  have h5:=q5 j hjl
  rw [Nat.zero_add] at h5
  exact ⟨j,_,h5,(q6 j c hj).noI64 hc⟩
open Classical in
theorem OCalls.ren {P:Program} {f:FuncId} {args args' : List PV} {given given' res res' : List (Nat×List PV)} {gm gm' rm rm' : List (Nat×PMap)} {r r' : PV} (h:OCalls P f args given gm r res rm) (ρ:Nat→Nat) (hs1:∀i∈given.map (·.1),i∈res.map (·.1)) (hs2:∀i∈gm.map (·.1),i∈rm.map (·.1))
  (hinj:∀i∈ResIds res rm,∀j∈ResIds res rm,ρ i=ρ j→i=j) (ha:RenL ρ (fun i=>i∈ResIds given gm) args args') (hg:RenB ρ (fun i=>i∈ResIds given gm) given given') (hm:RenMs ρ (fun i=>i∈ResIds given gm) gm gm')
  (hr:Ren ρ (fun i=>i∈ResIds res rm) r r') (hres:RenB ρ (fun i=>i∈ResIds res rm) res res') (hrm:RenMs ρ (fun i=>i∈ResIds res rm) rm rm'):OCalls P f args' given' gm' r' res' rm':=by
 refine ⟨h.1,fun Φ μ ω w vs himm hgl hrep hgb hgmm hlt hown=>?_⟩
 have hsub:∀i∈ResIds given gm,i∈ResIds res rm:=by
  intro i hi
  rcases List.mem_append.1 hi with hi|hi
  ·exact List.mem_append.2 (.inl (hs1 i hi))
  ·exact List.mem_append.2 (.inr (hs2 i hi))
 obtain ⟨g1,g2,g3⟩:=hg.mem
 obtain ⟨m1,m2,m3⟩:=hm.mem
 obtain ⟨b1,b2,b3⟩:=hres.mem
 obtain ⟨c1,c2,c3⟩:=hrm.mem
 have hids:ResIds given' gm' = (ResIds given gm).map ρ:=by simp only [ResIds,g3,m3,List.map_append]
 have hrids:ResIds res' rm' = (ResIds res rm).map ρ:=by simp only [ResIds,b3,c3,List.map_append]
 let μ1:Nat→Option Nat:=fun i=>if i∈ResIds given gm then μ (ρ i) else none
 let ω1:Nat→Option Who:=fun g=>if hh:∃q,((∃i∈ResIds given gm,OfId i q)∨∃t,q=Who.tmp t)∧ω g=some (renW ρ q) then some hh.choose else none
 have winj:∀q q',((∃i∈ResIds given gm,OfId i q)∨∃t,q=Who.tmp t)→((∃i∈ResIds given gm,OfId i q')∨∃t,q' = Who.tmp t)→renW ρ q=renW ρ q'→q=q':=by
  rintro q q' (⟨i,hi,hq⟩|⟨t,rfl⟩) (⟨j,hj,hq'⟩|⟨t',rfl⟩) e
  ·rcases hq with rfl|⟨x,rfl⟩<;>rcases hq' with rfl|⟨y,rfl⟩
   ·simp only [renW,Who.box.injEq] at e;rw [hinj i (hsub i hi) j (hsub j hj) e]
   ·simp [renW] at e
   ·simp [renW] at e
   ·simp only [renW,Who.cell.injEq] at e;rw [hinj i (hsub i hi) j (hsub j hj) e.1,e.2]
  ·rcases hq with rfl|⟨x,rfl⟩<;>simp [renW] at e
  ·rcases hq' with rfl|⟨y,rfl⟩<;>simp [renW] at e
  ·simpa [renW] using e
 have hω1:∀g q,((∃i∈ResIds given gm,OfId i q)∨∃t,q=Who.tmp t)→(ω1 g=some q↔ω g=some (renW ρ q)):=by
  intro g q hq
  constructor
  ·intro e
   have e' : (if hh:∃q,((∃i∈ResIds given gm,OfId i q)∨∃t,q=Who.tmp t)∧ω g=some (renW ρ q) then some hh.choose else none)=some q:=e
   split at e'
   ·rename_i hh
    have:=hh.choose_spec.2
    cases e'
    exact this
   ·cases e'
  ·intro e
   show (if hh:_ then _ else _)=_
   have hh:∃q,((∃i∈ResIds given gm,OfId i q)∨∃t,q=Who.tmp t)∧ω g=some (renW ρ q):=⟨q,hq,e⟩
   rw [dif_pos hh]
   have h2:=hh.choose_spec
   have h3:some (renW ρ q)=some (renW ρ hh.choose):=e.symm.trans h2.2
   simp only [Option.some.injEq] at h3
   rw [winj _ _ h2.1 hq h3.symm]
 have hω1' : ∀g q,ω1 g=some q→((∃i∈ResIds given gm,OfId i q)∨∃t,q=Who.tmp t)∧ω g=some (renW ρ q):=by
  intro g q e
  have e' : (if hh:∃q,((∃i∈ResIds given gm,OfId i q)∨∃t,q=Who.tmp t)∧ω g=some (renW ρ q) then some hh.choose else none)=some q:=e
  split at e'
  ·rename_i hh
   have:=hh.choose_spec
   cases e'
   exact this
  ·cases e'
 have hgiv0:∀g,Giv ω1 (ResIds given gm) g↔Giv ω (ResIds given' gm') g:=by
  intro g
  constructor
  ·rintro ⟨i,hi,q,hq,e⟩
   refine ⟨ρ i,by rw [hids];exact List.mem_map.2 ⟨i,hi,rfl⟩,renW ρ q,?_,(hω1' g q e).2⟩
   rcases hq with rfl|⟨j,rfl⟩
   ·exact .inl rfl
   ·exact .inr ⟨j,rfl⟩
  ·rintro ⟨i',hi0,q',hq,e⟩
   rw [hids] at hi0
   obtain ⟨i,hi,rfl⟩:=List.mem_map.1 hi0
   rcases hq with rfl|⟨j,rfl⟩
   ·exact ⟨i,hi, .box i, .inl rfl,(hω1 g _ (.inl ⟨i,hi, .inl rfl⟩)).2 e⟩
   ·exact ⟨i,hi, .cell i j, .inr ⟨j,rfl⟩,(hω1 g _ (.inl ⟨i,hi, .inr ⟨j,rfl⟩⟩)).2 e⟩
 have hag:∀(i n k:Nat) (cs:List PV) (E:TypeId),args[i]? = some (PV.sl n k cs (some E))↔args'[i]? = some (PV.sl n k cs (some E)):=by
  intro i n k cs E
  constructor
  ·intro e
   obtain ⟨q,hq⟩:=get_of_len ha.1.symm e
   have:=(ha.2 i _ q e hq).own (.inl rfl)
   rw [this];exact hq
  ·intro e
   obtain ⟨q,hq⟩:=get_of_len ha.1 e
   have:=(ha.2 i q _ hq e).own (.inr rfl)
   rw [←this];exact hq
 have hgiv:∀g,GivO ω1 (ResIds given gm) args g↔GivO ω (ResIds given' gm') args' g:=by
  intro g
  constructor
  ·rintro (h1|⟨i,p,h1,h2,h3⟩)
   ·exact .inl ((hgiv0 g).1 h1)
   ·obtain ⟨q,hq⟩:=get_of_len ha.1.symm h1
    have e:=(ha.2 i p q h1 hq).own (.inl h2)
    exact .inr ⟨i,q,hq,by rw [←e];exact h2,(hω1' g _ h3).2⟩
  ·rintro (h1|⟨i,p,h1,h2,h3⟩)
   ·exact .inl ((hgiv0 g).2 h1)
   ·obtain ⟨q,hq⟩:=get_of_len ha.1 h1
    have e:=(ha.2 i q p hq h1).own (.inr h2)
    exact .inr ⟨i,q,hq,by rw [e];exact h2,(hω1 g (.tmp i) (.inr ⟨i,rfl⟩)).2 h3⟩
 have hμ1:∀i,i∈ResIds given gm→∀g,μ (ρ i)=some g→μ1 i=some g:=fun i hi g e=>by show (if _ then _ else _)=_;rw [if_pos hi];exact e
 have hrep1:RepL Φ μ1 args vs:=⟨by rw [hrep.1,ha.1],fun j p u hp hu=>by
  obtain ⟨q,hq⟩:=get_of_len ha.1.symm hp
  exact (ha.2 j p q hp hq).bwd hμ1 (hrep.2 j q u hq hu)⟩
 refine (h.2 Φ μ1 ω1 w vs himm hgl hrep1 (fun x hx=>?_) (fun x hx=>?_) (fun g p e=>hlt g _ (hω1' g p e).2) (fun i n k cs E v h1 h2=>?_)).mono ?_
 ·obtain ⟨y,hy,e1,e2⟩:=g1 x hx
  have hi:x.1∈ResIds given gm:=List.mem_append.2 (.inl (List.mem_map.2 ⟨x,hx,rfl⟩))
  have:=hgb y hy
  rw [e1] at this
  exact this.bwd hi e2 hμ1 (fun q hq g e=>⟨(hω1 g q (.inl ⟨x.1,hi,hq⟩)).2 e,fun _=>trivial⟩)
 ·obtain ⟨y,hy,e1,e2⟩:=m1 x hx
  have hi:x.1∈ResIds given gm:=List.mem_append.2 (.inr (List.mem_map.2 ⟨x,hx,rfl⟩))
  have:=hgmm y hy
  rw [e1] at this
  exact this.bwd hi e2 hμ1 (fun q hq g e=>⟨(hω1 g q (.inl ⟨x.1,hi,hq⟩)).2 e,fun _=>trivial⟩)
 ·rcases hown i n k cs E v ((hag i n k cs E).1 h1) h2 with q|⟨g,cap,cur,q1,q2,q3,q4,q5,q6,q7,q8⟩|q
  ·exact .inl q
  ·exact .inr (.inl ⟨g,cap,cur,q1,trivial,q3,q4,q5,q6,(hω1 g (.tmp i) (.inr ⟨i,rfl⟩)).2 q7,q8⟩)
  ·exact .inr (.inr q)
 rintro e w' ⟨v,Φ',μ',ω',rfl,k1,k2,k3,k4,k5,k6,k7,k8,k9,k10,k11⟩
 let μ2:Nat→Option Nat:=fun i' => if hh:∃i∈ResIds res rm,ρ i=i' then μ' hh.choose else none
 have hμ2:∀i,i∈ResIds res rm→μ2 (ρ i)=μ' i:=by
  intro i hi
  show (if hh:_ then _ else _)=_
  have hh:∃j∈ResIds res rm,ρ j=ρ i:=⟨i,hi,rfl⟩
  rw [dif_pos hh]
  have:=hh.choose_spec
  rw [hinj _ this.1 _ hi this.2]
 have hμ2' : ∀i,i∈ResIds res rm→∀g,μ' i=some g→μ2 (ρ i)=some g:=fun i hi g e=>by rw [hμ2 i hi];exact e
 let ω2:Nat→Option Who:=fun g=>(ω' g).map (renW ρ)
 have hnew:∀g,NewO ω1 w (ResIds given gm) args g↔NewO ω w (ResIds given' gm') args' g:=fun g=>or_congr Iff.rfl (hgiv g)
 refine ⟨v,Φ',μ2,ω2,rfl,hr.fwd hμ2' k1,k2,k3,fun b o hb hng=>k4 b o hb (fun hh=>hng ((hgiv b).1 hh)),k5.mono fun k hk=>⟨hk.1,fun hh=>hk.2 ((hgiv k).1 hh)⟩,fun i' hi' => ?_,fun i' g e=>?_,fun y hy=>?_,fun y hy=>?_,fun g p e=>?_,fun n k cs E e=>?_⟩
 ·rw [hids] at hi'
  obtain ⟨i,hi,rfl⟩:=List.mem_map.1 hi'
  rw [hμ2 i (hsub i hi),k6 i hi]
  show (if _ then _ else _)=_
  rw [if_pos hi]
 ·have e' : (if hh:∃i∈ResIds res rm,ρ i=i' then μ' hh.choose else none)=some g:=e
  split at e'
  ·rename_i hh
   obtain ⟨i,hi,rfl⟩:=hh
   rw [hrids];exact List.mem_map.2 ⟨i,hi,rfl⟩
  ·cases e'
 ·obtain ⟨x,hx,e1,e2⟩:=b2 y hy
  have hi:x.1∈ResIds res rm:=List.mem_append.2 (.inl (List.mem_map.2 ⟨x,hx,rfl⟩))
  rw [e1]
  exact (k8 x hx).fwd hi e2 hμ2' (fun q hq g e=>⟨by show (ω' g).map _=_;rw [e];rfl,fun hb=>(hnew g).1 hb⟩)
 ·obtain ⟨x,hx,e1,e2⟩:=c2 y hy
  have hi:x.1∈ResIds res rm:=List.mem_append.2 (.inr (List.mem_map.2 ⟨x,hx,rfl⟩))
  rw [e1]
  exact (k9 x hx).fwd hi e2 hμ2' (fun q hq g e=>⟨by show (ω' g).map _=_;rw [e];rfl,fun hb=>(hnew g).1 hb⟩)
 ·have e' : (ω' g).map (renW ρ)=some p:=e
  obtain ⟨q,hq,-⟩:=Option.map_eq_some_iff.1 e'
  exact ⟨(k10 g q hq).1,(hnew g).1 (k10 g q hq).2⟩
 ·have hre:r=r':=hr.own (.inr (by rw [e];rfl))
  rcases k11 n k cs E (by rw [hre,e]) with q|⟨g',cap,cur',q1,q2,q3,q4,q5,q6,q7,q8⟩|q
  ·exact .inl q
  ·exact .inr (.inl ⟨g',cap,cur',q1,(hnew g').1 q2,q3,q4,q5,q6,by show (ω' g').map _=_;rw [q7];rfl,q8⟩)
  ·exact .inr (.inr q)
theorem OCalls.at {P:Program} {f:FuncId} {args args' : List PV} {given given' res res' : List (Nat×List PV)} {gm gm' rm rm' : List (Nat×PMap)} {r r' : PV} (h:OCalls P f args given gm r res rm) (L:List (Nat×Nat)) (hd:(L.map (·.2)).Nodup) (hs:∀i∈ResIds res rm,i∈L.map (·.1)) (hs1:∀i∈given.map (·.1),i∈res.map (·.1)) (hs2:∀i∈gm.map (·.1),i∈rm.map (·.1))
  (ha:RenL (renN L) (fun i=>i∈ResIds given gm) args args') (hg:RenB (renN L) (fun i=>i∈ResIds given gm) given given') (hm:RenMs (renN L) (fun i=>i∈ResIds given gm) gm gm')
  (hr:Ren (renN L) (fun i=>i∈ResIds res rm) r r') (hres:RenB (renN L) (fun i=>i∈ResIds res rm) res res') (hrm:RenMs (renN L) (fun i=>i∈ResIds res rm) rm rm'):OCalls P f args' given' gm' r' res' rm':=
 h.ren (renN L) hs1 hs2 (fun i hi j hj e=>renN_inj hd i (hs i hi) j (hs j hj) e) ha hg hm hr hres hrm
end
end Go.Proofs.YtmeekbjhpidcgaaDoor
