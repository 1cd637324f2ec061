/- Out of: Df. -/
import Derived.Test.YtmeekbjhpidcgaaDoorG21
namespace Go.Proofs.YtmeekbjhpidcgaaDoor
set_option linter.unusedSimpArgs false
set_option linter.unusedVariables false
set_option linter.unnecessarySimpa false
section
open Go.RowKit
variable {P:Program} {T:Tab} {σ:PS} {o:Oper} {i base:Nat} {ops:Array Oper} {ok:Nat→Nat→Bool} {rest:List (Nat×Oper)} {K:PS→Prop}
theorem PWops.bldA {d f off n:Nat} {cs out:List PV} {x:Operand} {t:TypeId} {ti:TyI} {l:List (Nat×Nat×Bool)} (hg:pguard ops σ o=some true) (hd:o.dst=some d) (hop:o.op = .build t #[(f,x)]) (hx:pev σ x = .agg cs) (ht:T.at t=some ti) (hk:ti.kind = .struct l) (hf:(l[f]?).map (fun x=>(x.1,x.2.1))=some (off,n)) (hb:σ.freeB (base+i)=true) (hl:cs.length=n) (hz:Nat.ble (off+n) ti.zero.length=true) (ho:cs.all PV.one=true) (hr:cs.map PV.bare=cs) (hout:splice ti.zero off cs=out)
  (kn:PWops P T ops base ok rest K (σ.put d (.agg out))):PWops P T ops base ok ((i,o) :: rest) K σ:=by
 refine PWops.valEq hg hd (p:=.agg out) ?_ rfl hb kn
 have hz':=Nat.le_of_ble_eq_true hz
 have hs:=splF_eq ti.zero off cs (by omega)
 rw [hout] at hs
 simp only [hop,presE,pvalA,pval,ht,pbuild,hk,List.map_cons,List.map_nil,pev_only,hx,pfill,hf,pcells,ho,if_true,hr,hl,hz',and_self,hs,Option.map_some]
theorem PWops.rng {d mid clock kt et:Nat} {x:Operand} {t:TypeId} {es:List (Nat×PV×PV)} {ti:TyI} (hg:pguard ops σ o=some true) (hd:o.dst=some d) (hop:o.op = .range t x) (hx:pev σ x = .mref mid) (hm:(σ.only (ok i)).m mid=some (.map es clock)) (ht:T.at t=some ti) (hk:ti.kind = .map kt et) (hb:σ.freeB (base+i)=true)
  (kn:PWops P T ops base ok rest K ((σ.setm (base+i) (.iter mid clock [] clock)).put d (.ptr (base+i) 0))):PWops P T ops base ok ((i,o) :: rest) K σ:=by
 refine PWops.stepM hg (E:=⟨.ptr (base+i) 0,[],none,[(base+i, .iter mid clock [] clock)]⟩) ?_ hb (by rw [hd];exact kn)
 have h1:(σ.only (ok i)).b (base+i)=none∧(σ.only (ok i)).m (base+i)=none:=by
  obtain ⟨q1,q2⟩:=PS.freeB_spec hb
  simp only [PS.only,q1,q2]
  constructor<;>split<;>rfl
 simp only [hop,presM,ht,pev_only,hx,mapOf,hm,h1.1,h1.2,hk]
theorem PWops.ent {d it mid since last s clock:Nat} {x:Operand} {seen:List Nat} {es:List (Nat×PV×PV)} {e:Nat×PV×PV} (hg:pguard ops σ o=some true) (hd:o.dst=some d) (hop:o.op = .entry x) (hx:pev σ x = .ptr it 0) (hi:(σ.only (ok i)).m it=some (.iter mid since (seen ++ [s]) last)) (hm:(σ.only (ok i)).m mid=some (.map es clock)) (hcl:clock=last) (hf:es.find? (fun e=>e.1 == s)=some e) (hb:σ.freeB (base+i)=true)
  (kn:PWops P T ops base ok rest K (σ.put d (.tup [e.2.1.bare,e.2.2.bare]))):PWops P T ops base ok ((i,o) :: rest) K σ:=by
 refine PWops.valEq hg hd (p:=.tup [e.2.1.bare,e.2.2.bare]) ?_ rfl hb kn
 simp only [hop,presE,pvalA,pval,pvalX,pentryAt,pev_only,hx,hi,hm,hcl,if_true,List.getLast?_concat,hf,Option.map_some]
theorem find_stamp:∀{es:List (Nat×PV×PV)} {e:Nat×PV×PV},(es.map (·.1)).Nodup→e∈es→es.find? (fun x=>x.1 == e.1)=some e
 | [],e,hn,h=>by simp at h
 |x :: es,e,hn,h=>by
  simp only [List.map_cons,List.nodup_cons] at hn
  rcases List.mem_cons.1 h with rfl|h
  ·simp
  ·have hne:(x.1 == e.1)=false:=by
    rw [beq_eq_false_iff_ne]
    intro e1
    exact hn.1 (by rw [e1];exact List.mem_map_of_mem h)
   rw [List.find?_cons,hne]
   exact find_stamp hn.2 h
end
section
open Go.RowKit
def opFind (i:Int):List (Nat×Int×List Sec)→Option (List Sec)
 | []=>none
 |(_,k,l) :: r=>if i=k then some l else opFind i r
def synced (cells:List DCell) (op:List (Nat×Int×List Sec)):List DCell:=(List.range cells.length).map fun j=>match opFind (j:Nat) op with
 |some l=>⟨lastS l,false⟩
 |none=>cells.getD j default
def DM.synced (D:DM):DM:={ D with cells:=Go.Proofs.YtmeekbjhpidcgaaDoor.synced D.cells D.op,op := [] }
def DM.sync (D:DM):Int×DM:=if D.check 0=0 then (if D.step.1=0 then (0,D.step.2.synced) else D.step) else (D.check 0,D)
def opOK (n:Nat) (op:List (Nat×Int×List Sec)):Prop:=(op.map (·.2.1)).Nodup∧∀e∈op,0≤e.2.1∧e.2.1 < n∧0 < e.2.2.length∧e.2.2.length≤1000000000
theorem opIdx_mem {i:Int} : ∀{op:List (Nat×Int×List Sec)} {n j:Nat} {s:Nat} {l:List Sec},(op.map (·.2.1)).Nodup→op[j]? = some (s,i,l)→opIdx i op n=some (n+j)
 | [],n,j,s,l,hn,h=>by simp at h
 |(a,k,b) :: op,n,0,s,l,hn,h=>by
  simp at h
  obtain ⟨rfl,rfl,rfl⟩:=h
  simp [opIdx]
 |(a,k,b) :: op,n,j+1,s,l,hn,h=>by
  simp only [List.map_cons,List.nodup_cons] at hn
  simp only [List.getElem?_cons_succ] at h
  have hne:i≠k:=by
   rintro rfl
   exact hn.1 (List.mem_map.2 ⟨_,List.mem_of_getElem? h,rfl⟩)
  simp only [opIdx,if_neg hne]
  rw [opIdx_mem hn.2 h]
  congr 1;omega
theorem erase_map {α β:Type} (f:α→β):∀(l:List α) (j:Nat),(l.map f).eraseIdx j=(l.eraseIdx j).map f
 | [],j=>by simp
 |a :: l,0=>by simp
 |a :: l,j+1=>by simp [erase_map f l j]
theorem splice_sec (s:Sec) (b:Bool):splice (List.replicate 64 (.val (.int .u8 0)) ++ [pbool b]) 0 (secL s)=dcellL ⟨s,b⟩:=by
 unfold splice
 rw [List.take_zero,List.nil_append,Nat.zero_add,secL_len]
 rfl
theorem dcellL_cells (c:DCell):pcells (.agg (dcellL c))=some (dcellL c):=by simp only [pcells,dcellL_one,if_true,dcellL_bare]
theorem opFind_none {i:Int} : ∀{op:List (Nat×Int×List Sec)},i∉op.map (·.2.1)→opFind i op=none
 | [],h=>rfl
 |(a,k,b) :: op,h=>by
  simp only [List.map_cons,List.mem_cons,not_or] at h
  simp only [opFind,if_neg h.1]
  exact opFind_none h.2
theorem opFind_erase {i k:Int} : ∀{op:List (Nat×Int×List Sec)} {j s:Nat} {l:List Sec},(op.map (·.2.1)).Nodup→op[j]? = some (s,k,l)→opFind i (op.eraseIdx j)=if i=k then none else opFind i op
 | [],j,s,l,hn,h=>by simp at h
 |(a,c,b) :: op,0,s,l,hn,h=>by
  simp at h
  obtain ⟨rfl,rfl,rfl⟩:=h
  simp only [List.map_cons,List.nodup_cons] at hn
  simp only [List.eraseIdx_cons_zero,opFind]
  split
  ·rename_i e;subst e;exact opFind_none hn.1
  ·rfl
 |(a,c,b) :: op,j+1,s,l,hn,h=>by
  simp only [List.map_cons,List.nodup_cons] at hn
  simp only [List.getElem?_cons_succ] at h
  have hne:k≠c:=by
   rintro rfl
   exact hn.1 (List.mem_map.2 ⟨_,List.mem_of_getElem? h,rfl⟩)
  simp only [List.eraseIdx_cons_succ,opFind,opFind_erase hn.2 h]
  by_cases e:i=c
  ·subst e;rw [if_pos rfl,if_pos rfl,if_neg (fun e=>hne e.symm)]
  ·rw [if_neg e,if_neg e]
theorem opFind_at {k:Int} : ∀{op:List (Nat×Int×List Sec)} {j s:Nat} {l:List Sec},(op.map (·.2.1)).Nodup→op[j]? = some (s,k,l)→opFind k op=some l
 | [],j,s,l,hn,h=>by simp at h
 |(a,c,b) :: op,0,s,l,hn,h=>by
  simp at h
  obtain ⟨rfl,rfl,rfl⟩:=h
  simp [opFind]
 |(a,c,b) :: op,j+1,s,l,hn,h=>by
  simp only [List.map_cons,List.nodup_cons] at hn
  simp only [List.getElem?_cons_succ] at h
  have hne:k≠c:=by
   rintro rfl
   exact hn.1 (List.mem_map.2 ⟨_,List.mem_of_getElem? h,rfl⟩)
  simp only [opFind,if_neg hne]
  exact opFind_at hn.2 h
theorem synced_step {cells:List DCell} {op:List (Nat×Int×List Sec)} {j s:Nat} {k:Int} {l:List Sec} (hn:(op.map (·.2.1)).Nodup) (h:op[j]? = some (s,k,l)) (h0:0≤k) (h1:k < cells.length):synced (cells.set k.toNat ⟨lastS l,false⟩) (op.eraseIdx j)=synced cells op:=by
 unfold synced
 rw [List.length_set]
 refine List.map_congr_left fun q hq=>?_
 rw [opFind_erase hn h]
 by_cases e:(q:Int)=k
 ·subst e
  rw [if_pos rfl,opFind_at hn h]
  have:q < cells.length:=by omega
  simp [this]
 ·rw [if_neg e]
  have:k.toNat≠q:=by omega
  simp [List.getElem?_set_ne this]
theorem synced_nil (cells:List DCell):synced cells []=cells:=by
 unfold synced
 apply List.ext_getElem?
 intro q
 simp only [opFind,List.getElem?_map]
 by_cases h:q < cells.length
 ·simp [h]
 ·simp [h]
theorem opOK_erase {n:Nat} {op:List (Nat×Int×List Sec)} (h:opOK n op) (j:Nat):opOK n (op.eraseIdx j):=
 ⟨h.1.sublist ((List.eraseIdx_sublist ..).map _),fun e he=>h.2 e (List.mem_of_mem_eraseIdx he)⟩
theorem nodup_erase_at {op:List Nat} {j x:Nat} (hn:op.Nodup) (h:op[j]? = some x):x∉op.eraseIdx j:=by
 induction op generalizing j with
 |nil=>simp at h
 |cons a op ih=>
  cases j with
  |zero=>simp at h;subst h;simpa using (List.nodup_cons.1 hn).1
  |succ j=>
   simp only [List.getElem?_cons_succ] at h
   simp only [List.eraseIdx_cons_succ,List.mem_cons,not_or]
   refine ⟨?_,ih (List.nodup_cons.1 hn).2 h⟩
   rintro rfl
   exact (List.nodup_cons.1 hn).1 (List.mem_of_getElem? h)
set_option maxRecDepth 10000 in
set_option maxHeartbeats 2000000 in
theorem dc_Sync (D:DM) (h:0≤D.steps∧D.steps≤1000000000 ∧ -1≤D.after) (h2:D.after≤9223372036854775807) (hsz:D.cells.length≤1000000000) (hop:opOK D.cells.length D.op):DCalls 30 [] D (pint D.sync.1) D.sync.2:=by
 refine dcalls_of_pw Tryd.func30 rfl rfl (by simp) (by simp) (Nat.le_of_ble_eq_true rfl) (.val _) ?_
 have hck:=dc_check D 0 1000001 1000002 1000003 (by decide)
 have hst:=dc_step D h h2 1000001 1000002 1000003 (by decide)
 by_cases h1:D.check 0=0
 ·obtain ⟨hd,hi0,hi1⟩:=check0 h1
  by_cases h3:D.step.1=0
  ·have hr:D.sync=(0,D.step.2.synced):=by unfold DM.sync;rw [if_pos h1,if_pos h3]
   rw [hr]
   have hsop:D.step.2.op=D.op:=by unfold DM.step;split<;>rfl
   have hscl:D.step.2.cells=D.cells:=by unfold DM.step;split<;>rfl
   generalize hD1:D.step.2=D1 at hst hsop hscl ⊢
   rw [←hsop,←hscl] at hop
   rw [←hscl] at hi1 hsz
   refine wk ?_
   refine PWops.rng rfl rfl rfl rfl rfl rfl rfl rfl ?_
   refine wk ?_
   refine PW.stamps (id:=1000003) rfl (fun hs=>?_)
   refine PW.loop (fun p:DM×List Nat=>((((((bot.setb 1000001 (dB 1000002 1000003 p.1)).setb 1000002 (dC p.1)).setm 1000003 (dM p.1)).setm 6004 (.iter 1000003 D1.clock p.2 D1.clock)).put 0 (.ptr 1000001 0)).put 2 (pint 0)).put 19 (.ptr 6004 0))
    (fun p=>p.1.cells.length=D1.cells.length∧p.1.clock=D1.clock∧p.1.synced=D1.synced∧opOK D1.cells.length p.1.op∧(∀e∈p.1.op,e.1∉p.2)∧(p.1.op.map (·.1)).Nodup∧∀e∈p.1.op,e.1 < D1.clock) (fun p=>p.1.op.length) (D1,[]) ?_ ?_ ?_
   ·refine ⟨rfl,rfl,rfl,hop,by simp,?_,fun e he=>?_⟩
    ·have:=hs.1
     rw [List.map_map] at this;exact this
    ·exact hs.2 _ (List.mem_map_of_mem he)
   ·have hl:=dC_low D1
    have hlm:=dM_low D1
    exact sb
   ·rintro ⟨⟨cells,op,clock,steps,after,dead⟩,seen⟩ ⟨i1,i2,i3,i4,i5,i6,i7⟩
    dsimp only at i1 i2 i3 i4 i5 i6 i7
    subst i2
    refine PW.seq ?_
    refine PWnext typeTab_ok (it:=6004) (mid:=1000003) (es:=op.map dE) (clock:=D1.clock) rfl rfl rfl (by decide) rfl ?_ ?_ ?_
    ·cases hsn:op with
     |nil=>exact .inr (.inl rfl)
     |cons e r=>
      refine .inr (.inr ⟨dE e,by simp,?_⟩)
      exact i7 e (by rw [hsn];simp)
    ·intro hno
     have hn0:op = []:=by
      cases hsn:op with
      |nil=>rfl
      |cons e r=>
       exfalso
       have hm:e∈op:=by rw [hsn];simp
       exact i5 e hm (hno (dE e) (List.mem_map_of_mem hm) (i7 e hm))
     refine wk ?_
     have hD:D1.synced=⟨cells,[],D1.clock,steps,after,dead⟩:=by
      rw [←i3,hn0]
      unfold DM.synced
      simp only [synced_nil]
     rw [hD]
     exact RetH.mk rfl (Weak.refl _) ⟨⟨_,rfl,WeakL.refl _⟩,⟨_,rfl,WeakL.refl _⟩,trivial⟩ ⟨⟨rfl,by subst hn0;rfl⟩,trivial⟩
    ·intro e' he' hns
     obtain ⟨e,he,rfl⟩:=List.mem_map.1 he'
     obtain ⟨j,hj⟩:=List.getElem?_of_mem he
     obtain ⟨q1,q2,q3,q4⟩:=i4.2 e he
     have hfs:=find_stamp (es:=op.map dE) (e:=dE e) (by rw [List.map_map];exact i6) he'
     have hix:opIdx e.2.1 op 0=some j:=by rw [opIdx_mem i4.1 hj,Nat.zero_add]
     have hll:(e.2.2:List Sec).length≤1000000000:=q4
     refine wk ?_
     refine PWops.ent (seen:=seen) (s:=e.1) rfl rfl rfl rfl rfl rfl rfl hfs rfl ?_
     refine wk ?_
     refine PWops.bldA (cs:=secL (lastS e.2.2)) (out:=dcellL ⟨lastS e.2.2,false⟩) rfl rfl rfl rfl rfl rfl rfl rfl (secL_len _) rfl (secL_one _) (secL_bare _) (splice_sec _ _) ?_
     refine wk ?_
     refine PWops.stBR (v:=⟨lastS e.2.2,false⟩) rfl rfl rfl rfl rfl (by exact dcellL_cells ⟨lastS e.2.2,false⟩) rfl rfl rfl dcellL_len (by (first|omega|(dsimp only;omega))) rfl ?_
     refine wk ?_
     have hdel:mdel ⟨1,false, .int .i64,[.val (.int .i64 0)],[]⟩ (op.map dE) D1.clock (.int .i64 e.2.1)=some (.map ((op.eraseIdx j).map dE) D1.clock):=by
      unfold mdel
      simp only [keyOK,skT,decide_true,if_true]
      rw [opIdx_find,hix]
      simp only [erase_map]
     refine PWops.mdel rfl rfl rfl rfl rfl rfl rfl rfl rfl rfl hdel ?_
     refine wk ?_
     refine loopP (⟨cells.set e.2.1.toNat ⟨lastS e.2.2,false⟩,op.eraseIdx j,D1.clock,steps,after,dead⟩,seen ++ [e.1]) ⟨?_,rfl,?_,opOK_erase i4 j,?_,?_,?_⟩ ?_ ?_
     ·show (cells.set _ _).length=_
      rw [List.length_set];exact i1
     ·rw [←i3]
      unfold DM.synced
      simp only [synced_step i4.1 hj q1 (by rw [i1];exact q2)]
     ·intro x hx
      have hx':=List.mem_of_mem_eraseIdx hx
      rw [List.mem_append,List.mem_singleton,not_or]
      refine ⟨i5 x hx',fun e1=>?_⟩
      have h5:(op.map (·.1))[j]? = some e.1:=by rw [List.getElem?_map,hj];rfl
      have h6:=nodup_erase_at i6 h5
      rw [erase_map] at h6
      exact h6 (by rw [←e1];exact List.mem_map_of_mem hx)
     ·show ((op.eraseIdx j).map _).Nodup
      exact i6.sublist ((List.eraseIdx_sublist ..).map _)
     ·exact fun x hx=>i7 x (List.mem_of_mem_eraseIdx hx)
     ·show (op.eraseIdx j).length < op.length
      have:=(List.getElem?_eq_some_iff.1 hj).1
      rw [List.length_eraseIdx]
      split<;>omega
     ·have hdB:dB 1000002 1000003 ⟨cells.set e.2.1.toNat ⟨lastS e.2.2,false⟩,op.eraseIdx j,D1.clock,steps,after,dead⟩=dB 1000002 1000003 ⟨cells,op,D1.clock,steps,after,dead⟩:=by simp [dB]
      have hl:=dC_low ⟨cells.set e.2.1.toNat ⟨lastS e.2.2,false⟩,op.eraseIdx j,D1.clock,steps,after,dead⟩
      have hlm:=dM_low ⟨cells.set e.2.1.toNat ⟨lastS e.2.2,false⟩,op.eraseIdx j,D1.clock,steps,after,dead⟩
      dsimp only
      rw [hdB]
      exact sb
  ·have hr:D.sync=D.step:=by unfold DM.sync;rw [if_pos h1,if_neg h3]
   rw [hr]
   refine wk ?_
   exact RetH.mk rfl (Weak.refl _) ⟨⟨_,rfl,WeakL.refl _⟩,⟨_,rfl,WeakL.refl _⟩,trivial⟩ ⟨⟨rfl,rfl⟩,trivial⟩
 ·have hr:D.sync=(D.check 0,D):=by unfold DM.sync;rw [if_neg h1]
  rw [hr]
  refine wk ?_
  exact RetH.mk rfl (Weak.refl _) ⟨⟨_,rfl,WeakL.refl _⟩,⟨_,rfl,WeakL.refl _⟩,trivial⟩ ⟨⟨rfl,rfl⟩,trivial⟩
end
end Go.Proofs.YtmeekbjhpidcgaaDoor
