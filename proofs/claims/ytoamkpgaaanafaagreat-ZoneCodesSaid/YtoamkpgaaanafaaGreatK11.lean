/- Out of: Pb, PwRn, PwOw, PwIt4, PwIt5, PwIt6, PwCut, PwMk. -/
import Derived.StillTailTactics
import Derived.Deep.Cut
import Derived.Test.YtoamkpgaaanafaaGreatK1
import Derived.Test.YtoamkpgaaanafaaGreatK2
import Derived.Test.YtoamkpgaaanafaaGreatK3
import Derived.Test.YtoamkpgaaanafaaGreatK4
import Derived.Test.YtoamkpgaaanafaaGreatK5
import Derived.Test.YtoamkpgaaanafaaGreatK6
import Derived.Test.YtoamkpgaaanafaaGreatK8
namespace Go.Proofs.YtoamkpgaaanafaaGreat
set_option linter.unusedSimpArgs false
set_option linter.unusedVariables false
set_option linter.unnecessarySimpa false
section
open Go.RowKit
def entCellsP (e:PEntry):List PV := [pint e.id,pint e.ver,pint e.owner,pint e.filed,pint e.frm,pint e.to,pint e.born,pints e.vec,pattrs e.attrs]
theorem low_entCells (e:PEntry):∀c∈entCellsP e,Low c:=low_agg.1 ((low_pentry e).2 trivial)
def renN:List (Nat×Nat)→Nat→Nat
 | [],i=>i
 |(a,b) :: l,i=>cond (Nat.beq i a) b (renN l i)
theorem renN_mem:∀{l:List (Nat×Nat)} {i:Nat},i∈l.map (·.1)→(i,renN l i)∈l
 | [],i,h=>by simp at h
 |(a,b) :: l,i,h=>by
  unfold renN
  cases e:Nat.beq i a with
  |true=>
   have e':=Nat.eq_of_beq_eq_true e
   subst e'; exact List.mem_cons_self ..
  |false=>
   refine List.mem_cons_of_mem _ (renN_mem ?_)
   rcases List.mem_cons.1 h with rfl|h
   ·rw [Nat.beq_refl] at e;cases e
   ·exact h
theorem renN_inj {l:List (Nat×Nat)} (h2:(l.map (·.2)).Nodup):∀i∈l.map (·.1),∀j∈l.map (·.1),renN l i=renN l j→i=j:=by
 intro i hi j hj e
 have h3:=renN_mem hi
 have h4:=renN_mem hj
 rw [e] at h3
 have key:∀{l:List (Nat×Nat)} {a b c:Nat},(l.map (·.2)).Nodup→(a,c)∈l→(b,c)∈l→a=b:=by
  intro l
  induction l with
  |nil=>intro a b c _ h;simp at h
  |cons x l ih=>
   intro a b c hn ha hb
   simp only [List.map_cons,List.nodup_cons] at hn
   rcases List.mem_cons.1 ha with ha|ha<;>rcases List.mem_cons.1 hb with hb|hb
   ·rw [←ha] at hb;cases hb;rfl
   ·exact absurd (List.mem_map.2 ⟨_,hb,by rw [←ha]⟩) hn.1
   ·exact absurd (List.mem_map.2 ⟨_,ha,by rw [←hb]⟩) hn.1
   ·exact ih hn.2 ha hb
 exact key h2 h3 h4
end
section
open Go.RowKit
variable {S:Nat→Prop}
theorem li_nil:∀p∈([]:List PV),LowI S p:=by simp
theorem li_cons {p:PV} {ps:List PV} (h:LowI S p) (hs:∀q∈ps,LowI S q):∀q∈p :: ps,LowI S q:=by
 intro q hq
 rcases List.mem_cons.1 hq with rfl|hq
 ·exact h
 ·exact hs q hq
theorem li_low {ps:List PV} (h:∀p∈ps,Low p):∀p∈ps,LowI S p:=fun p hp=>(h p hp).lowI
theorem lb_nil:∀x∈([]:List (Nat×List PV)),∀p∈x.2,LowI S p:=by simp
theorem lb_cons {i:Nat} {bs:List PV} {l:List (Nat×List PV)} (h:∀p∈bs,LowI S p) (hs:∀x∈l,∀p∈x.2,LowI S p):∀x∈(i,bs) :: l,∀p∈x.2,LowI S p:=by
 intro x hx
 rcases List.mem_cons.1 hx with rfl|hx
 ·exact h
 ·exact hs x hx
theorem lm_nil:∀x∈([]:List (Nat×PMap)),LowM S x.2:=by simp
theorem lm_cons {i:Nat} {es:List (Nat×PV×PV)} {c:Nat} {l:List (Nat×PMap)} (h:∀e∈es,Low e.2.1∧Low e.2.2) (hs:∀x∈l,LowM S x.2):∀x∈(i,PMap.map es c) :: l,LowM S x.2:=by
 intro x hx
 rcases List.mem_cons.1 hx with rfl|hx
 ·exact fun e he=>⟨(h e he).1.lowI,(h e he).2.lowI⟩
 ·exact hs x hx
end
section
open Go.RowKit
variable {ρ:Nat→Nat} {S:Nat→Prop} {ps qs:List PV}
theorem ren_agg (h:RenL ρ S ps qs):Ren ρ S (.agg ps) (.agg qs):=.agg _ _ h.1 h.2
theorem ren_fn {f:FuncId} (h:RenL ρ S ps qs):Ren ρ S (.fn f ps) (.fn f qs):=.fn _ _ _ h.1 h.2
theorem ren_sl {n k:Nat} (h:RenL ρ S ps qs):Ren ρ S (.sl n k ps none) (.sl n k qs none):=.sl _ _ _ _ h.1 h.2
end
section
open Go.RowKit
theorem HCalls.at {P:Program} {f:FuncId} {args args' : List PV} {given given' res res' : List (Nat×List PV)} {gm gm' rm rm' : List (Nat×PMap)} {r r' : PV} (h:HCalls P f args given gm r res rm) (L:List (Nat×Nat)) (hd:(L.map (·.2)).Nodup) (hs:∀i∈ResIds res rm,i∈L.map (·.1)) (hs1:∀i∈given.map (·.1),i∈res.map (·.1)) (hs2:∀i∈gm.map (·.1),i∈rm.map (·.1))
  (ha:RenL (renN L) (fun i=>i∈ResIds given gm) args args') (hg:RenB (renN L) (fun i=>i∈ResIds given gm) given given') (hm:RenMs (renN L) (fun i=>i∈ResIds given gm) gm gm')
  (hr:Ren (renN L) (fun i=>i∈ResIds res rm) r r') (hres:RenB (renN L) (fun i=>i∈ResIds res rm) res res') (hrm:RenMs (renN L) (fun i=>i∈ResIds res rm) rm rm'):HCalls P f args' given' gm' r' res' rm':=
 h.ren (renN L) hs1 hs2 (fun i hi j hj e=>renN_inj hd i (hs i hi) j (hs j hj) e) ha hg hm hr hres hrm
def GivO (ω:Nat→Option Who) (ids:List Nat) (args:List PV) (g:Nat):Prop:=Giv ω ids g∨∃(i:Nat) (p:PV),args[i]? = some p∧p.ownB=true∧ω g=some (.tmp i)
def NewO (ω:Nat→Option Who) (w:World) (ids:List Nat) (args:List PV) (g:Nat):Prop:=w.heap.size≤g∨GivO ω ids args g
def OPost (Φ:Imm) (μ:Nat→Option Nat) (ω:Nat→Option Who) (w:World) (ids:List Nat) (args:List PV) (r:PV) (res:List (Nat×List PV)) (rm:List (Nat×PMap)) (e:Ending) (w' : World):Prop:=
 ∃v Φ' μ' ω',e = .returned v∧Rep Φ' μ' r v∧(∀b o u,Φ' b o=some u→w'.cell? ⟨b,o,none⟩=some u)∧(∀b o u,Φ b o=some u→Φ' b o=some u)∧(∀b o,b < w.heap.size→¬GivO ω ids args b→Φ' b o=Φ b o) ∧
  Kept (fun b=>b < w.heap.size∧¬GivO ω ids args b) w w'∧(∀id∈ids,μ' id=μ id)∧(∀id g,μ' id=some g→id∈ResIds res rm)∧(∀x∈res,BoxAt (NewO ω w ids args) Φ' μ' ω' w' x.1 x.2)∧(∀x∈rm,MapAt (NewO ω w ids args) Φ' μ' ω' w' x.1 x.2) ∧
  (∀g p,ω' g=some p→g < w'.heap.size∧NewO ω w ids args g)∧(∀n k cs E,r = .sl n k cs (some E)→OwnAt (NewO ω w ids args) Φ' ω' w' (.tmp 0) n k E v)
def OCalls (P:Program) (f:FuncId) (args:List PV) (given:List (Nat×List PV)) (gm:List (Nat×PMap)) (r:PV) (res:List (Nat×List PV)) (rm:List (Nat×PMap)):Prop:=
 callB P f=true∧∀(Φ:Imm) (μ:Nat→Option Nat) (ω:Nat→Option Who) (w:World) (vs:List Value),(∀b o u,Φ b o=some u→w.cell? ⟨b,o,none⟩=some u)→GlobOK Φ→RepL Φ μ args vs →
  (∀x∈given,BoxAt (fun _=>True) Φ μ ω w x.1 x.2)→(∀x∈gm,MapAt (fun _=>True) Φ μ ω w x.1 x.2)→(∀g p,ω g=some p→g < w.heap.size) →
  (∀(i n k:Nat) (cs:List PV) (E:TypeId) (v:Value),args[i]? = some (PV.sl n k cs (some E))→vs[i]? = some v→OwnAt (fun _=>True) Φ ω w (.tmp i) n k E v)→Calls P f vs.toArray w (OPost Φ μ ω w (ResIds given gm) args r res rm)
theorem own_mix {Φ:Imm} {μ:Nat→Option Nat} {n k g cap:Nat} {cs:List PV} {own:Option TypeId} (hr:Rep Φ μ (.sl n k cs own) (.slice (some ⟨g,0,none⟩) n cap)) (hf:∀j,n * k≤j→Φ g j=none) (hc:cs = []∨∃(j:Nat) (c:PV),cs[j]? = some c∧noI64 c=true):Mix Φ g:=by
 intro o u e
 obtain ⟨a,b,off,cap',us,hv,-,-,q3,q4,q5,q6⟩:=hr.sl_inv
 have ho:o < n * k:=by
  rcases Nat.lt_or_ge o (n * k) with h|h
  ·exact h
  ·rw [hf o h] at e;cases e
 have hn:0 < n:=by
  rcases Nat.eq_zero_or_pos n with h|h
  ·subst h;simp at ho
  ·exact h
 cases hv
 have h4:=q4 hn
 cases h4
 rcases hc with rfl|⟨j,c,hj,hc⟩
 ·simp at q3;omega
 ·have hjl:j < cs.length:=(List.getElem?_eq_some_iff.1 hj).1
  have h5:=q5 j hjl
  rw [Nat.zero_add] at h5
  exact ⟨j,_,h5,(q6 j c hj).noI64 hc⟩
open Classical in
theorem OCalls.ren {P:Program} {f:FuncId} {args args' : List PV} {given given' res res' : List (Nat×List PV)} {gm gm' rm rm' : List (Nat×PMap)} {r r' : PV} (h:OCalls P f args given gm r res rm) (ρ:Nat→Nat) (hs1:∀i∈given.map (·.1),i∈res.map (·.1)) (hs2:∀i∈gm.map (·.1),i∈rm.map (·.1))
  (hinj:∀i∈ResIds res rm,∀j∈ResIds res rm,ρ i=ρ j→i=j) (ha:RenL ρ (fun i=>i∈ResIds given gm) args args') (hg:RenB ρ (fun i=>i∈ResIds given gm) given given') (hm:RenMs ρ (fun i=>i∈ResIds given gm) gm gm')
  (hr:Ren ρ (fun i=>i∈ResIds res rm) r r') (hres:RenB ρ (fun i=>i∈ResIds res rm) res res') (hrm:RenMs ρ (fun i=>i∈ResIds res rm) rm rm'):OCalls P f args' given' gm' r' res' rm':=by
 refine ⟨h.1,fun Φ μ ω w vs himm hgl hrep hgb hgmm hlt hown=>?_⟩
 have hsub:∀i∈ResIds given gm,i∈ResIds res rm:=by
  intro i hi
  rcases List.mem_append.1 hi with hi|hi
  ·exact List.mem_append.2 (.inl (hs1 i hi))
  ·exact List.mem_append.2 (.inr (hs2 i hi))
 obtain ⟨g1,g2,g3⟩:=hg.mem
 obtain ⟨m1,m2,m3⟩:=hm.mem
 obtain ⟨b1,b2,b3⟩:=hres.mem
 obtain ⟨c1,c2,c3⟩:=hrm.mem
 have hids:ResIds given' gm' = (ResIds given gm).map ρ:=by simp only [ResIds,g3,m3,List.map_append]
 have hrids:ResIds res' rm' = (ResIds res rm).map ρ:=by simp only [ResIds,b3,c3,List.map_append]
 let μ1:Nat→Option Nat:=fun i=>if i∈ResIds given gm then μ (ρ i) else none
 let ω1:Nat→Option Who:=fun g=>if hh:∃q,((∃i∈ResIds given gm,OfId i q)∨∃t,q=Who.tmp t)∧ω g=some (renW ρ q) then some hh.choose else none
 have winj:∀q q',((∃i∈ResIds given gm,OfId i q)∨∃t,q=Who.tmp t)→((∃i∈ResIds given gm,OfId i q')∨∃t,q' = Who.tmp t)→renW ρ q=renW ρ q'→q=q':=by
  rintro q q' (⟨i,hi,hq⟩|⟨t,rfl⟩) (⟨j,hj,hq'⟩|⟨t',rfl⟩) e
  ·rcases hq with rfl|⟨x,rfl⟩<;>rcases hq' with rfl|⟨y,rfl⟩
   ·simp only [renW,Who.box.injEq] at e;rw [hinj i (hsub i hi) j (hsub j hj) e]
   ·simp [renW] at e
   ·simp [renW] at e
   ·simp only [renW,Who.cell.injEq] at e;rw [hinj i (hsub i hi) j (hsub j hj) e.1,e.2]
  ·rcases hq with rfl|⟨x,rfl⟩<;>simp [renW] at e
  ·rcases hq' with rfl|⟨y,rfl⟩<;>simp [renW] at e
  ·simpa [renW] using e
 have hω1:∀g q,((∃i∈ResIds given gm,OfId i q)∨∃t,q=Who.tmp t)→(ω1 g=some q↔ω g=some (renW ρ q)):=by
  intro g q hq
  constructor
  ·intro e
   have e' : (if hh:∃q,((∃i∈ResIds given gm,OfId i q)∨∃t,q=Who.tmp t)∧ω g=some (renW ρ q) then some hh.choose else none)=some q:=e
   split at e'
   ·rename_i hh
    have:=hh.choose_spec.2
    cases e'
    exact this
   ·cases e'
  ·intro e
   show (if hh:_ then _ else _)=_
   have hh:∃q,((∃i∈ResIds given gm,OfId i q)∨∃t,q=Who.tmp t)∧ω g=some (renW ρ q):=⟨q,hq,e⟩
   rw [dif_pos hh]
   have h2:=hh.choose_spec
   have h3:some (renW ρ q)=some (renW ρ hh.choose):=e.symm.trans h2.2
   simp only [Option.some.injEq] at h3
   rw [winj _ _ h2.1 hq h3.symm]
 have hω1' : ∀g q,ω1 g=some q→((∃i∈ResIds given gm,OfId i q)∨∃t,q=Who.tmp t)∧ω g=some (renW ρ q):=by
  intro g q e
  have e' : (if hh:∃q,((∃i∈ResIds given gm,OfId i q)∨∃t,q=Who.tmp t)∧ω g=some (renW ρ q) then some hh.choose else none)=some q:=e
  split at e'
  ·rename_i hh
   have:=hh.choose_spec
   cases e'
   exact this
  ·cases e'
 have hgiv0:∀g,Giv ω1 (ResIds given gm) g↔Giv ω (ResIds given' gm') g:=by
  intro g
  constructor
  ·rintro ⟨i,hi,q,hq,e⟩
   refine ⟨ρ i,by rw [hids];exact List.mem_map.2 ⟨i,hi,rfl⟩,renW ρ q,?_,(hω1' g q e).2⟩
   rcases hq with rfl|⟨j,rfl⟩
   ·exact .inl rfl
   ·exact .inr ⟨j,rfl⟩
  ·rintro ⟨i',hi0,q',hq,e⟩
   rw [hids] at hi0
   obtain ⟨i,hi,rfl⟩:=List.mem_map.1 hi0
   rcases hq with rfl|⟨j,rfl⟩
   ·exact ⟨i,hi, .box i, .inl rfl,(hω1 g _ (.inl ⟨i,hi, .inl rfl⟩)).2 e⟩
   ·exact ⟨i,hi, .cell i j, .inr ⟨j,rfl⟩,(hω1 g _ (.inl ⟨i,hi, .inr ⟨j,rfl⟩⟩)).2 e⟩
 have hag:∀(i n k:Nat) (cs:List PV) (E:TypeId),args[i]? = some (PV.sl n k cs (some E))↔args'[i]? = some (PV.sl n k cs (some E)):=by
  intro i n k cs E
  constructor
  ·intro e
   obtain ⟨q,hq⟩:=get_of_len ha.1.symm e
   have:=(ha.2 i _ q e hq).own (.inl rfl)
   rw [this];exact hq
  ·intro e
   obtain ⟨q,hq⟩:=get_of_len ha.1 e
   have:=(ha.2 i q _ hq e).own (.inr rfl)
   rw [←this];exact hq
 have hgiv:∀g,GivO ω1 (ResIds given gm) args g↔GivO ω (ResIds given' gm') args' g:=by
  intro g
  constructor
  ·rintro (h1|⟨i,p,h1,h2,h3⟩)
   ·exact .inl ((hgiv0 g).1 h1)
   ·obtain ⟨q,hq⟩:=get_of_len ha.1.symm h1
    have e:=(ha.2 i p q h1 hq).own (.inl h2)
    exact .inr ⟨i,q,hq,by rw [←e];exact h2,(hω1' g _ h3).2⟩
  ·rintro (h1|⟨i,p,h1,h2,h3⟩)
   ·exact .inl ((hgiv0 g).2 h1)
   ·obtain ⟨q,hq⟩:=get_of_len ha.1 h1
    have e:=(ha.2 i q p hq h1).own (.inr h2)
    exact .inr ⟨i,q,hq,by rw [e];exact h2,(hω1 g (.tmp i) (.inr ⟨i,rfl⟩)).2 h3⟩
 have hμ1:∀i,i∈ResIds given gm→∀g,μ (ρ i)=some g→μ1 i=some g:=fun i hi g e=>by show (if _ then _ else _)=_;rw [if_pos hi];exact e
 have hrep1:RepL Φ μ1 args vs:=⟨by rw [hrep.1,ha.1],fun j p u hp hu=>by
  obtain ⟨q,hq⟩:=get_of_len ha.1.symm hp
  exact (ha.2 j p q hp hq).bwd hμ1 (hrep.2 j q u hq hu)⟩
 refine (h.2 Φ μ1 ω1 w vs himm hgl hrep1 (fun x hx=>?_) (fun x hx=>?_) (fun g p e=>hlt g _ (hω1' g p e).2) (fun i n k cs E v h1 h2=>?_)).mono ?_
 ·obtain ⟨y,hy,e1,e2⟩:=g1 x hx
  have hi:x.1∈ResIds given gm:=List.mem_append.2 (.inl (List.mem_map.2 ⟨x,hx,rfl⟩))
  have:=hgb y hy
  rw [e1] at this
  exact this.bwd hi e2 hμ1 (fun q hq g e=>⟨(hω1 g q (.inl ⟨x.1,hi,hq⟩)).2 e,fun _=>trivial⟩)
 ·obtain ⟨y,hy,e1,e2⟩:=m1 x hx
  have hi:x.1∈ResIds given gm:=List.mem_append.2 (.inr (List.mem_map.2 ⟨x,hx,rfl⟩))
  have:=hgmm y hy
  rw [e1] at this
  exact this.bwd hi e2 hμ1 (fun q hq g e=>⟨(hω1 g q (.inl ⟨x.1,hi,hq⟩)).2 e,fun _=>trivial⟩)
 ·rcases hown i n k cs E v ((hag i n k cs E).1 h1) h2 with q|⟨g,cap,cur,q1,q2,q3,q4,q5,q6,q7,q8⟩|q
  ·exact .inl q
  ·exact .inr (.inl ⟨g,cap,cur,q1,trivial,q3,q4,q5,q6,(hω1 g (.tmp i) (.inr ⟨i,rfl⟩)).2 q7,q8⟩)
  ·exact .inr (.inr q)
 rintro e w' ⟨v,Φ',μ',ω',rfl,k1,k2,k3,k4,k5,k6,k7,k8,k9,k10,k11⟩
 let μ2:Nat→Option Nat:=fun i' => if hh:∃i∈ResIds res rm,ρ i=i' then μ' hh.choose else none
 have hμ2:∀i,i∈ResIds res rm→μ2 (ρ i)=μ' i:=by
  intro i hi
  show (if hh:_ then _ else _)=_
  have hh:∃j∈ResIds res rm,ρ j=ρ i:=⟨i,hi,rfl⟩
  rw [dif_pos hh]
  have:=hh.choose_spec
  rw [hinj _ this.1 _ hi this.2]
 have hμ2' : ∀i,i∈ResIds res rm→∀g,μ' i=some g→μ2 (ρ i)=some g:=fun i hi g e=>by rw [hμ2 i hi];exact e
 let ω2:Nat→Option Who:=fun g=>(ω' g).map (renW ρ)
 have hnew:∀g,NewO ω1 w (ResIds given gm) args g↔NewO ω w (ResIds given' gm') args' g:=fun g=>or_congr Iff.rfl (hgiv g)
 refine ⟨v,Φ',μ2,ω2,rfl,hr.fwd hμ2' k1,k2,k3,fun b o hb hng=>k4 b o hb (fun hh=>hng ((hgiv b).1 hh)),k5.mono fun k hk=>⟨hk.1,fun hh=>hk.2 ((hgiv k).1 hh)⟩,fun i' hi' => ?_,fun i' g e=>?_,fun y hy=>?_,fun y hy=>?_,fun g p e=>?_,fun n k cs E e=>?_⟩
 ·rw [hids] at hi'
  obtain ⟨i,hi,rfl⟩:=List.mem_map.1 hi'
  rw [hμ2 i (hsub i hi),k6 i hi]
  show (if _ then _ else _)=_
  rw [if_pos hi]
 ·have e' : (if hh:∃i∈ResIds res rm,ρ i=i' then μ' hh.choose else none)=some g:=e
  split at e'
  ·rename_i hh
   obtain ⟨i,hi,rfl⟩:=hh
   rw [hrids];exact List.mem_map.2 ⟨i,hi,rfl⟩
  ·cases e'
 ·obtain ⟨x,hx,e1,e2⟩:=b2 y hy
  have hi:x.1∈ResIds res rm:=List.mem_append.2 (.inl (List.mem_map.2 ⟨x,hx,rfl⟩))
  rw [e1]
  exact (k8 x hx).fwd hi e2 hμ2' (fun q hq g e=>⟨by show (ω' g).map _=_;rw [e];rfl,fun hb=>(hnew g).1 hb⟩)
 ·obtain ⟨x,hx,e1,e2⟩:=c2 y hy
  have hi:x.1∈ResIds res rm:=List.mem_append.2 (.inr (List.mem_map.2 ⟨x,hx,rfl⟩))
  rw [e1]
  exact (k9 x hx).fwd hi e2 hμ2' (fun q hq g e=>⟨by show (ω' g).map _=_;rw [e];rfl,fun hb=>(hnew g).1 hb⟩)
 ·have e' : (ω' g).map (renW ρ)=some p:=e
  obtain ⟨q,hq,-⟩:=Option.map_eq_some_iff.1 e'
  exact ⟨(k10 g q hq).1,(hnew g).1 (k10 g q hq).2⟩
 ·have hre:r=r':=hr.own (.inr (by rw [e];rfl))
  rcases k11 n k cs E (by rw [hre,e]) with q|⟨g',cap,cur',q1,q2,q3,q4,q5,q6,q7,q8⟩|q
  ·exact .inl q
  ·exact .inr (.inl ⟨g',cap,cur',q1,(hnew g').1 q2,q3,q4,q5,q6,by show (ω' g').map _=_;rw [q7];rfl,q8⟩)
  ·exact .inr (.inr q)
theorem OCalls.at {P:Program} {f:FuncId} {args args' : List PV} {given given' res res' : List (Nat×List PV)} {gm gm' rm rm' : List (Nat×PMap)} {r r' : PV} (h:OCalls P f args given gm r res rm) (L:List (Nat×Nat)) (hd:(L.map (·.2)).Nodup) (hs:∀i∈ResIds res rm,i∈L.map (·.1)) (hs1:∀i∈given.map (·.1),i∈res.map (·.1)) (hs2:∀i∈gm.map (·.1),i∈rm.map (·.1))
  (ha:RenL (renN L) (fun i=>i∈ResIds given gm) args args') (hg:RenB (renN L) (fun i=>i∈ResIds given gm) given given') (hm:RenMs (renN L) (fun i=>i∈ResIds given gm) gm gm')
  (hr:Ren (renN L) (fun i=>i∈ResIds res rm) r r') (hres:RenB (renN L) (fun i=>i∈ResIds res rm) res res') (hrm:RenMs (renN L) (fun i=>i∈ResIds res rm) rm rm'):OCalls P f args' given' gm' r' res' rm':=
 h.ren (renN L) hs1 hs2 (fun i hi j hj e=>renN_inj hd i (hs i hi) j (hs j hj) e) ha hg hm hr hres hrm
end
section
open Go.RowKit
variable {Φ0:Ent} {W:World} {M:Nat} {Φ:Imm} {μ:Nat→Option Nat} {ω:Nat→Option Who} {σ:PS} {a:Act} {w:World} {P:Program} {T:Tab}
theorem RelG.rebaseA (h:RelG Φ0 W M Φ μ ω σ a w) {Φ1:Ent} {W1:World} {a' : Act} (ht:a'.tmps=a.tmps) (hb:Kept (Old Φ1 W1) W1 w) (hd:a'.defers=Φ1.marks.map collD∧RndOK Φ1 W1) (ho:∀b o,Old Φ1 W1 b→Φ b o=Φ1.imm b o)
  (hg:∀id g,Φ1.mu id=some g→1000000≤id) (hk:∀id g,Φ1.mu id=some g→(σ.b id≠none∨σ.m id≠none)→μ id=some g) (he:∀b o u,Φ1.imm b o=some u→Φ b o=some u∧b < W1.heap.size) (hm:∀g p,ω g=some p→Mine Φ1 W1 g):RelG Φ1 W1 M Φ μ ω σ a' w:=
 ⟨hb,hd,by rw [ht];exact h.size,h.imm,ho,by rw [ht];exact h.tmps,fun t n k cs E e=>by rw [ht];exact (h.own t n k cs E e).inB (fun g e=>hm g _ e),fun id bs e=>(h.box id bs e).inB (fun g q _ e=>hm g q e),h.gone,h.lt,hg,hk,he,fun id X e=>(h.map id X e).inB (fun g q _ e=>hm g q e),hm⟩
def OwnsX (c:PV):Prop:=∀n k cs E,c = .sl n k cs (some E)→cs = []∨∃(j:Nat) (c:PV),cs[j]? = some c∧noI64 c=true
theorem ownsX_no {c:PV} (h:c.ownB=false):OwnsX c:=fun n k cs E e=>by rw [e] at h;simp [PV.ownB] at h
theorem OwnAt.mixJ {B B' : Nat→Prop} {Φ:Imm} {μ:Nat→Option Nat} {ω ω' : Nat→Option Who} {w:World} {p:Who} {n k:Nat} {cs:List PV} {E:TypeId} {v:Value} (h:OwnAt B Φ ω w p n k E v) (hr:Rep Φ μ (.sl n k cs (some E)) v) (ho:OwnsX (.sl n k cs (some E))) (hω:∀g,ω g=some p→Mix Φ g→ω' g=some p∧B' g):OwnAt B' Φ ω' w p n k E v:=by
 rcases h with h|⟨g,cap,cur,rfl,h2,h3,h4,h5,h6,h7,h8⟩|h
 ·exact .inl h
 ·obtain ⟨k1,k2⟩:=hω g h7 (own_mix hr h8.2 (ho n k cs E rfl))
  exact .inr (.inl ⟨g,cap,cur,rfl,k2,h3,h4,h5,h6,k1,h8⟩)
 ·exact .inr (.inr h)
structure OwnsS (σ:PS):Prop where
 t:∀t,(σ.t t).ownB=false
 b:∀id bs,σ.b id=some bs→∀c∈bs,OwnsX c
 m:∀id es clock,σ.m id=some (.map es clock)→∀e∈es,OwnsX e.2.2
theorem ownsS_bot:OwnsS bot:=⟨fun _=>rfl,fun _ _ e=>(by cases e),fun _ _ _ e=>(by cases e)⟩
theorem OwnsS.put {σ:PS} (h:OwnsS σ) {d:Nat} {p:PV} (hp:p.ownB=false):OwnsS (σ.put d p):=by
 refine ⟨fun t=>?_,h.b,h.m⟩
 simp only [PS.put,upd_if]
 split
 ·exact hp
 ·exact h.t t
theorem OwnsS.setb {σ:PS} (h:OwnsS σ) {i:Nat} {bs:List PV} (hp:∀c∈bs,OwnsX c):OwnsS (σ.setb i bs):=by
 refine ⟨h.t,fun id cs e=>?_,h.m⟩
 simp only [PS.setb,upd_if] at e
 split at e
 ·cases e;exact hp
 ·exact h.b id cs e
theorem OwnsS.setm {σ:PS} (h:OwnsS σ) {i:Nat} {X:PMap} (hp:∀es clock,X = .map es clock→∀e∈es,OwnsX e.2.2):OwnsS (σ.setm i X):=by
 refine ⟨h.t,h.b,fun id es clock e=>?_⟩
 simp only [PS.setm,upd_if] at e
 split at e
 ·cases e;exact hp es clock rfl
 ·exact h.m id es clock e
theorem ownsX_nil:∀c∈([]:List PV),OwnsX c:=fun c h=>by cases h
theorem ownsX_cons {c:PV} {cs:List PV} (h:OwnsX c) (hs:∀c∈cs,OwnsX c):∀d∈c :: cs,OwnsX d:=by
 intro d hd
 rcases List.mem_cons.1 hd with rfl|hd
 ·exact h
 ·exact hs d hd
open Classical in
theorem RelG.mixed (h:RelG Φ0 W M Φ μ ω σ a w) (ho:OwnsS σ):∃ωm,RelG Φ0 W M Φ μ ωm σ a w∧∀g p,ωm g=some p→ω g=some p∧Mix Φ g:=by
 let ωm:Nat→Option Who:=fun g=>if Mix Φ g then ω g else none
 have h1:∀g p,ωm g=some p→ω g=some p∧Mix Φ g:=by
  intro g p e
  have e' : (if Mix Φ g then ω g else none)=some p:=e
  split at e'
  ·rename_i hm;exact ⟨e',hm⟩
  ·cases e'
 have h2:∀g p,ω g=some p→Mix Φ g→ωm g=some p:=fun g p e hm=>by show (if _ then _ else _)=_;rw [if_pos hm];exact e
 have h3:∀g,(∀j,Φ g j=none)→Mix Φ g:=fun g hj o u e=>by rw [hj] at e;cases e
 refine ⟨ωm,⟨h.below,h.defers,h.size,h.imm,h.old,h.tmps,fun t n k cs E e=>?_,fun id bs e=>?_,h.gone,fun g p e=>h.lt g p (h1 g p e).1,h.gmu,h.kmu,h.ext,fun id X e=>?_,fun g p e=>h.mine g p (h1 g p e).1⟩,h1⟩
 ·have:=ho.t t
  rw [e] at this
  simp [PV.ownB] at this
 ·obtain ⟨g,cur,Ty,k1,k2,k3,k4,k5,k6,k7⟩:=h.box id bs e
  refine ⟨g,cur,Ty,k1,k2,k3,h2 g _ k4 (h3 g k5),k5,k6,fun j c hc=>?_⟩
  obtain ⟨u,r1,r2,r3,r4⟩:=k7 j c hc
  refine ⟨u,r1,r2,r3,fun n k cs E e' => (r4 n k cs E e').mixJ (cs:=cs) (μ:=μ) (by rw [←e'];exact r3) (by rw [←e'];exact ho.b id bs e c (mem_of_get hc)) (fun g' e2 hno=>⟨h2 g' _ e2 hno,h.mine g' _ e2⟩)⟩
 ·obtain ⟨g,k1,k2,k3,k4,k5⟩:=h.map id X e
  refine ⟨g,k1,k2,h2 g _ k3 (h3 g k4),k4,?_⟩
  cases X with
  |map es clock=>
   obtain ⟨e0,ents,e1,e2,e3⟩:=k5
   refine ⟨e0,ents,e1,e2,fun j s k c hj=>?_⟩
   obtain ⟨en,f1,f2,f3,f4,f5⟩:=e3 j s k c hj
   refine ⟨en,f1,f2,f3,f4,fun n kk cs E ec=>(f5 n kk cs E ec).mixJ (cs:=cs) (μ:=μ) (by rw [←ec];exact f4) (by rw [←ec];exact ho.m id es clock e _ (mem_of_get hj)) (fun g' e2 hno=>⟨h2 g' _ e2 hno,h.mine g' _ e2⟩)⟩
  |iter=>exact k5
theorem RelG.subS {σ' : PS} (h:RelG Φ0 W M Φ μ ω σ a w) (hs:Sub M σ σ'):∃Φ' μ' ω',RelG Φ0 W M Φ' μ' ω' σ' a w∧Since Φ ω w Φ' ω' w:=by
 obtain ⟨Φ',μ',ω',k⟩:=hs _ _ _ _ ⟨Φ,μ,ω,h.fresh0 h.gmu h.kmu⟩
 have hsi:=h.since (Later.refl _ _) k
 have hold0:∀b,Old Φ0 W b→b < w.heap.size∧∀p,ω b≠some p:=fun b hb=>⟨Nat.lt_of_lt_of_le hb.1 h.below.size,h.noOld hb⟩
 refine ⟨Φ',μ',ω',k.rebase h.below h.defers (fun b o hb=>?_) h.gmu k.kmu (fun b o u e=>⟨?_,(h.ext b o u e).2⟩) (fun g p e=>?_),hsi⟩
 ·rw [hsi.imm b o (hold0 b hb).1 (hold0 b hb).2];exact h.old b o hb
 ·by_cases hω:∃p,ω b=some p
  ·exact (k.ext b o u ((freshI_own hω).trans e)).1
  ·have:=h.ext b o u e
   rw [hsi.imm b o (Nat.lt_of_lt_of_le this.2 h.below.size) (fun p e=>hω ⟨p,e⟩)]
   exact this.1
 ·rcases hsi.own g p e with ⟨q,hq⟩|hq
  ·exact h.mine g q hq
  ·exact .inl (Nat.le_trans h.below.size hq)
theorem putObj_cell {w:World} {l:Nat} {ob:Obj} (hl:∀o u,w.cell? ⟨l,o,none⟩≠some u) {b o:Nat} {u:Value} (h:w.cell? ⟨b,o,none⟩=some u):(w.putObj l ob).cell? ⟨b,o,none⟩=some u:=by
 have hb:b≠l:=by rintro rfl;exact hl o u h
 simp only [World.cell?] at h ⊢
 rw [World.putObj_heap_other hb];exact h
theorem loop_nocell {w:World} {l:Nat} {r:Loop} (h:w.heap[l]? = some (.loop r)):∀o u,w.cell? ⟨l,o,none⟩≠some u:=by
 intro o u e
 simp only [World.cell?,h] at e
 cases e
theorem RelG.putLoop (h:RelG Φ0 W M Φ μ ω σ a w) {l:Nat} {r:Loop} (hl:w.heap[l]? = some (.loop r)) (hω:∀p,ω l≠some p) (hold:¬Old Φ0 W l) (r' : Obj):RelG Φ0 W M Φ μ ω σ a (w.putObj l r'):=by
 refine h.grow (h.below.trans ⟨rfl,rfl,rfl,by simp,fun k hk=>World.putObj_heap_other (fun e=>hold (e ▸ hk))⟩) (fun b o u e=>putObj_cell (loop_nocell hl) (h.imm b o u e)) (fun _ _ _=>rfl) (fun _ _ _ e=>e) (fun g p e=>⟨World.putObj_heap_other (fun e' => hω p (e' ▸ e)),fun _=>rfl⟩) (by simp)
theorem RelG.putRound (h:RelG Φ0 W M Φ μ ω σ a w) {l:Nat} {r r' : Loop} (hr:Φ0.round=some l) (hl:w.heap[l]? = some (.loop r)):RelG (h.freshE Φ0.mu) (w.putObj l (.loop r')) M Φ μ ω σ a (w.putObj l (.loop r')):=by
 obtain ⟨q1,q2,-⟩:=h.rnd hr
 have h1:=h.fresh0 h.gmu h.kmu
 let Φg:Ent:=⟨freshI Φ0.imm Φ ω,fun g=>(∃p,ω g=some p)∨g=l,Φ0.mu,h.freshGlob,fun g hg=>by
  rcases hg with hg|rfl
  ·exact h.freshMix hg
  ·intro o u e
   have:=h.imm _ _ _ (h.freshSub e)
   exact absurd this (loop_nocell hl o u),Φ0.marks,none⟩
 have h2:RelG Φg w M Φ μ ω σ a w:=h1.rebase (Kept.refl _ _) ⟨h1.defers.1,fun _ e=>by cases e⟩ (fun b o hb=>(freshI_eq fun p e=>hb.2 (.inl ⟨p,e⟩)).symm) h.gmu h.kmu (fun b o u e=>⟨h.freshSub e,RelG.fresh h (h.freshSub e)⟩) (fun g p e=>.inr (.inl ⟨p,e⟩))
 have h3:RelG Φg w M Φ μ ω σ a (w.putObj l (.loop r')):=h2.putLoop hl q2 (fun ho=>ho.2 (.inr rfl)) _
 refine h3.rebase (Kept.refl _ _) ⟨h1.defers.1,fun l' e=>?_⟩ (fun b o hb=>(freshI_eq fun p e=>hb.2 ⟨p,e⟩).symm) h.gmu h.kmu (fun b o u e=>⟨h.freshSub e,by simpa using RelG.fresh h (h.freshSub e)⟩) (fun g p e=>.inr ⟨p,e⟩)
 have e' : Φ0.round=some l':=e
 rw [hr] at e'
 cases e'
 exact ⟨⟨by simpa using q1,fun ⟨p,hp⟩=>q2 p hp⟩,r',World.putObj_heap_same q1⟩
def setps (f:Nat→PV):List Nat→List PV→Nat→PV
 |p :: ps,x :: xs=>setps (upd f p x) ps xs
 |_,_=>f
theorem RelG.puts:∀(ps:List Nat) (xs:List PV) (vs:List Value) (σ:PS) (a:Act),RelG Φ0 W M Φ μ ω σ a w→(∀p∈ps,p < M)→ps.length=xs.length→RepL Φ μ xs vs→(∀x∈xs,x.ownB=false) →
  RelG Φ0 W M Φ μ ω { σ with t:=setps σ.t ps xs } { a with tmps:=(ps.zip vs).foldl (fun t (p,v)=>t.setIfInBounds p v) a.tmps } w
 | [],xs,vs,σ,a,h,_,_,_,_=>by simpa [setps] using h
 |p :: ps,[],vs,σ,a,h,_,hl,_,_=>by cases hl
 |p :: ps,x :: xs,[],σ,a,h,_,_,hr,_=>by have:=hr.1;cases this
 |p :: ps,x :: xs,v :: vs,σ,a,h,hp,hl,hr,ho=>by
  have h1:=h.put (hp p List.mem_cons_self) (hr.2 0 x v rfl rfl) (ho x List.mem_cons_self)
  have:=RelG.puts ps xs vs _ _ h1 (fun q hq=>hp q (List.mem_cons_of_mem _ hq)) (by simpa using hl) ⟨by have:=hr.1;simpa using this,fun j y u h1 h2=>hr.2 (j+1) y u h1 h2⟩ (fun y hy=>ho y (List.mem_cons_of_mem _ hy))
  exact this
end
section
open Go.RowKit
def CJ (Φr:Ent) (W1:World) (M:Nat) (a0:Act) (l:Nat) (σ:PS) (I:Nat→Prop) (K:Imm) (w:World):Prop:=
 ∃Φ μ ω,RelG Φr W1 M Φ μ ω σ a0 w∧(∀g,I g→∀p,ω g≠some p)∧(∀p,ω l≠some p)∧(∀b o u,I b→Φ b o=some u→K b o=some u)∧(∀g,I g→W1.heap.size≤g)
end
section
open Go.RowKit
variable {Φr:Ent} {W1:World} {M:Nat} {a0:Act} {l:Nat} {σ:PS} {I I' : Nat→Prop} {K K' : Imm} {w w' : World} {P:Program}
theorem CJ.step (h:CJ Φr W1 M a0 l σ I K w) (hk:Kept (fun b=>b < w.heap.size∧¬I b) w w') (hI:∀g,I' g→I g∨w.heap.size≤g) (hK:∀b o u,K b o=some u→I b→K' b o=some u) (hc:∀b o u,K' b o=some u→w'.cell? ⟨b,o,none⟩=some u):CJ Φr W1 M a0 l σ I' K' w':=by
 obtain ⟨Φ,μ,ω,hg,h1,h2,h3,h4⟩:=h
 have hg' : RelG Φr W1 M Φ μ ω σ a0 w':=by
  refine hg.grow (hg.below.trans (hk.mono fun b hb=>⟨Nat.lt_of_lt_of_le hb.1 hg.below.size,fun hi=>?_⟩)) (fun b o u e=>?_) (fun _ _ _=>rfl) (fun _ _ _ e=>e) (fun g p e=>⟨hk.block g ⟨hg.lt g p e,fun hi=>h1 g hi p e⟩,fun _=>rfl⟩) hk.size
  ·have:=h4 b hi;have:=hb.1;omega
  ·by_cases hi:I b
   ·exact hc b o u (hK b o u (h3 b o u hi e) hi)
   ·have:=hg.imm b o u e
    simp only [World.cell?] at this ⊢
    rw [hk.block b ⟨RelG.fresh hg e,hi⟩]
    exact this
 refine ⟨Φ,μ,ω,hg',fun g hi p e=>?_,h2,fun b o u hi e=>?_,fun g hi=>?_⟩
 ·rcases hI g hi with h' | h'
  ·exact h1 g h' p e
  ·have:=hg.lt g p e;omega
 ·rcases hI b hi with h' | h'
  ·exact hK b o u (h3 b o u h' e) h'
  ·have:=RelG.fresh hg e;omega
 ·rcases hI g hi with h' | h'
  ·exact h4 g h'
  ·exact Nat.le_trans hg.below.size h'
theorem CJ.putLoop {r:Loop} (h:CJ Φr W1 M a0 l σ I K w) (hl:w.heap[l]? = some (.loop r)) (hold:¬Old Φr W1 l) (r' : Obj):CJ Φr W1 M a0 l σ I K (w.putObj l r'):=by
 obtain ⟨Φ,μ,ω,hg,h1,h2,h3,h4⟩:=h
 exact ⟨Φ,μ,ω,hg.putLoop hl h2 hold r',h1,h2,h3,h4⟩
theorem CJ.sub {σ' : PS} (h:CJ Φr W1 M a0 l σ I K w) (hs:Sub M σ σ') (hl:l < w.heap.size) (hI:∀g,I g→g < w.heap.size):CJ Φr W1 M a0 l σ' I K w:=by
 obtain ⟨Φ,μ,ω,hg,h1,h2,h3,h4⟩:=h
 obtain ⟨Φ',μ',ω',k,hsi⟩:=hg.subS hs
 have hno:∀g,g < w.heap.size→(∀p,ω g≠some p)→∀p,ω' g≠some p:=fun g hlt hn p e=>by
  rcases hsi.own g p e with ⟨q,hq⟩|hq
  ·exact hn q hq
  ·omega
 refine ⟨Φ',μ',ω',k,fun g hi=>hno g (hI g hi) (h1 g hi),hno l hl h2,fun b o u hi e=>?_,h4⟩
 rw [hsi.imm b o (hI b hi) (h1 b hi)] at e
 exact h3 b o u hi e
def roundNorm (M:Nat) (T:Nat→PV) (F' : PS) (Ip:Prop) (σ' : PS):Prop:=Ip∧Sub M { σ' with t:=T } F'∧∀t,LowI (Kn σ') (T t)
def roundOut (M:Nat) (o:Nat) (L:List Nat) (T:Nat→PV) (Q:PS→Prop) (σ' : PS):Prop:=
 (∀t,LowI (Kn σ') (T t))∧∃G σe,Sub M { σ' with t:=T } G∧(∀i,Kn G i→i∈L)∧SubR (fun i=>i+o) (Kn σe) G σe∧Q σe
def RoundP (M:Nat) (o:Nat) (L:List Nat) (T:Nat→PV) (F' : PS) (Ip:Prop) (Q:Exit→PS→Prop):Exit→PS→Prop
 | .normal,σ' => roundNorm M T F' Ip σ'
 | .ret,σ' => roundOut M o L T (Q .ret) σ'
 | .exit i,σ' => roundOut M o L T (Q (.exit i)) σ'
 | .goto i,σ' => roundOut M o L T (Q (.goto i)) σ'
 |_,_=>False
def NormP (K:PS→Prop):Exit→PS→Prop
 | .normal,σ=>K σ
 |_,_=>False
theorem normP {K:PS→Prop} {σ:PS} (h:K σ):NormP K .normal σ:=h
theorem round_sound {r0:Loop} {ps:List Nat} {x:List PV} {vs:List Value} {F F' : PS} {Q:Exit→PS→Prop} {Ip:Prop} {o:Nat} {L:List Nat} {Φe:Imm}
  (hgivm:∀g,g < W1.heap.size→Mine Φr W1 g→g≠l→Mix Φe g) (himmr:Φr.imm=Φe) (hkn:∀i g,Φr.mu i=some g→Kn F i) (hmu:∀i,Kn F i→1000000≤i) (hlW:l < W1.heap.size) (hlold:¬Old Φr W1 l) (hmix:Mix Φe l)
  (hF:OwnsS F) (hps:∀p∈ps,p < M) (hpx:ps.length=x.length) (hx:∀p∈x,Low p∧p.ownB=false) {assign body:Code} (hassign:PW P M assign (NormP fun σ1=>PW P M body (RoundP M o L F.t F' Ip Q) σ1) { F with t:=setps F.t ps x })
  (hJ:CJ Φr W1 M a0 l F I K w) (hl:w.heap[l]? = some (.loop r0)) (hrs:r0.state = .ready) (hI:∀g,I g→W1.heap.size≤g∧g < w.heap.size) (hK:∀b o u,K b o=some u→w.cell? ⟨b,o,none⟩=some u) (hK1:∀b o,b < W1.heap.size→K b o=Φe b o) (hK2:∀b o u,W1.heap.size≤b→K b o=some u→I b) (hrep:RepL K mu0 x vs) :
  assign.wpIn (FW (some l)) 0 P (Exit.then (fun a₁ w₁=>∃w₂,(Instr.beginRound l).run P w₁ = .ok () w₂∧body.wpIn (FW (some l)) 0 P (fun e a' w3=>(w3.heap[l]? = some (.loop { r0 with state:=.busy })∧Kept (fun g=>(I g∨(g < W1.heap.size∧¬Mix Φe g))) w w3∧(∀b o u,K b o=some u→w3.cell? ⟨b,o,none⟩=some u)) ∧
   (match e with
    | .normal=>Ip∧CJ Φr W1 M a0 l F' I K w3
    | .ret=>∃G σe,CJ Φr W1 M a0 l G I K w3∧(∀i,Kn G i→i∈L)∧SubR (fun i=>i+o) (Kn σe) G σe∧Q .ret σe
    | .exit i=>∃G σe,CJ Φr W1 M a0 l G I K w3∧(∀i,Kn G i→i∈L)∧SubR (fun i=>i+o) (Kn σe) G σe∧Q (.exit i) σe
    | .goto i=>∃G σe,CJ Φr W1 M a0 l G I K w3∧(∀i,Kn G i→i∈L)∧SubR (fun i=>i+o) (Kn σe) G σe∧Q (.goto i) σe
    |_=>False)) a₁ w₂) (fun _ _ _=>False))
   { tmps:=(ps.zip vs).foldl (fun t (p,v)=>t.setIfInBounds p v) a0.tmps,defers := [] } w:=by
 obtain ⟨Φp,μp,ωp,hgp,hc1,hc2,hc3,hc4⟩:=hJ
 -- what the iterator knows beside what is known
 let Φu:Imm:=fun b o=>(Φp b o).orElse fun _=>K b o
 have hue:∀b o u,Φu b o=some u→Φp b o=some u∨(Φp b o=none∧K b o=some u):=by
  intro b o u e
  have e' : ((Φp b o).orElse fun _=>K b o)=some u:=e
  cases hh:Φp b o with
  |some v=>rw [hh] at e'; left;simpa using e'
  |none=>rw [hh] at e'; right;exact ⟨rfl,by simpa using e'⟩
 have hup:∀b o u,Φp b o=some u→Φu b o=some u:=by
  intro b o u e
  show ((Φp b o).orElse fun _=>K b o)=some u
  rw [e];rfl
 have huK:∀b o u,K b o=some u→Φu b o=some u:=by
  intro b o u e
  show ((Φp b o).orElse fun _=>K b o)=some u
  cases hh:Φp b o with
  |none=>simpa using e
  |some v=>
   have e1:=hgp.imm b o v hh
   rw [hK b o u e] at e1
   simpa using e1.symm
 have hun:∀b o,¬I b→Φu b o=Φp b o:=by
  intro b o hi
  show ((Φp b o).orElse fun _=>K b o)=Φp b o
  cases hh:Φp b o with
  |some v=>rfl
  |none=>
   show K b o=none
   cases hk:K b o with
   |none=>rfl
   |some u=>
    rcases Nat.lt_or_ge b W1.heap.size with h' | h'
    ·rw [hK1 b o h',←himmr] at hk
     rw [(hgp.ext b o u hk).1] at hh;cases hh
    ·exact absurd (hK2 b o u h' hk) hi
 have hnI:∀b,Old Φr W1 b→¬I b:=fun b hb hi=>by have:=(hI b hi).1;have:=hb.1;omega
 have hg1:RelG Φr W1 M Φu μp ωp F a0 w:=hgp.grow hgp.below (fun b o u e=>(hue b o u e).elim (hgp.imm b o u) (fun h=>hK b o u h.2)) (fun b o hb=>hun b o (hnI b hb)) hup (fun g p e=>⟨rfl,fun j=>hun g j (fun hi=>hc1 g hi p e)⟩) (Nat.le_refl _)
 obtain ⟨ωm,hg2,hωm⟩:=hg1.mixed hF
 have hml:∀p,ωm l≠some p:=fun p e=>hc2 p (hωm l p e).1
 have hlw:l < w.heap.size:=Nat.lt_of_lt_of_le hlW hgp.below.size
 have hkn' : ∀i g,μp i=some g→Kn F i:=by
  intro i g e
  by_cases hk:Kn F i
  ·exact hk
  ·have:=PS.freeB_iff.1 (by simpa [Kn] using hk:F.freeB i=true)
   rw [hgp.gone i this.1 this.2] at e;cases e
 let Φk:Ent:=⟨Φu,fun g=>∃p,ωm g=some p,μp,hg2.glob,fun g ⟨p,e⟩=>(hωm g p e).2,[],some l⟩
 have hg3:=hg2.rebaseA (a':={ tmps:=a0.tmps,defers := [] }) (Φ1:=Φk) (W1:=w) rfl (Kept.refl _ _) ⟨rfl,fun l' e=>by cases e;exact ⟨⟨hlw,fun ⟨p,e⟩=>hml p e⟩,r0,hl⟩⟩ (fun b o hb=>rfl) (fun i g e=>hmu i (hkn' i g e)) (fun i g e _=>e) (fun b o u e=>⟨e,RelG.fresh hg2 e⟩) (fun g p e=>.inr ⟨p,e⟩)
 have hrep' : RepL Φu μp x vs:=⟨hrep.1,fun j p u h1 h2=>((hrep.2 j p u h1 h2).low (hx p (mem_of_get h1)).1).mono huK (fun _ _ e=>e)⟩
 have hg4:=RelG.puts ps x vs F _ hg3 hps hpx hrep' (fun p hp=>(hx p hp).2)
 refine wpIn_mono (hassign Φk w _ w ⟨_,_,_,hg4⟩) ?_
 rintro e a1 w1 ⟨σ1,Φ2,W2,hq,hl2,Φ',μ',ω',k1⟩
 cases e with
 |normal=>?_
 |_=>exact hq.elim
 have hs1:Kept (fun b=>b < w.heap.size∧∀p,ωm b≠some p) w w1:=(hl2.kept.trans (k1.below.mono hl2.old)).mono fun b hb=>⟨hb.1,fun ⟨p,e⟩=>hb.2 p e⟩
 have hl1:w1.heap[l]? = some (.loop r0):=(hs1.block l ⟨hlw,hml⟩).trans hl
 have hr2:Φ2.round=some l:=hl2.round
 refine ⟨_,run_beginRound hl1 hrs,?_⟩
 have k2:=k1.putRound (r':={ r0 with state:=.busy }) hr2 hl1
 have hω'l:∀p,ω' l≠some p:=(k1.rnd hr2).2.1
 have hbw:=hq _ _ _ _ ⟨_,_,_,k2⟩
 rw [show (k1.freshE Φ2.mu).round=some l from hr2] at hbw
 refine wpIn_mono hbw ?_
 rintro e a3 w3 ⟨σ',Φ3,W3,hq',hl3,Φ'',μ'',ω'',k3⟩
 have hsz1:w.heap.size≤w1.heap.size:=hs1.size
 have hω' : ∀g p,ω' g=some p→(∃q,ωm g=some q)∨w.heap.size≤g:=fun g p e=>(hl2.mine g (k1.mine g p e)).symm
 have hω'' : ∀g p,ω'' g=some p→(∃q,ωm g=some q)∨w.heap.size≤g:=by
  intro g p e
  rcases hl3.mine g (k3.mine g p e) with h' | ⟨q,h'⟩
  ·right
   have:w1.heap.size≤g:=by simpa using h'
   omega
  ·exact hω' g q h'
 have hs3:Kept (fun b=>b < w1.heap.size∧∀p,ω' b≠some p) (w1.putObj l (.loop { r0 with state:=.busy })) w3:=(hl3.kept.trans (k3.below.mono hl3.old)).mono fun b hb=>⟨by simpa using hb.1,fun ⟨p,e⟩=>hb.2 p e⟩
 have hb' : ∀b,b < w.heap.size→(∀p,ωm b≠some p)→∀p,ω' b≠some p:=fun b h1 h2 p e=>by
  rcases hω' b p e with ⟨q,hq⟩|hq
  ·exact h2 q hq
  ·omega
 have hs:Kept (fun b=>b < w.heap.size∧(∀p,ωm b≠some p)∧b≠l) w w3:=by
  refine ⟨hs3.os.trans hs1.os,hs3.tape.trans hs1.tape,hs3.output.trans hs1.output,Nat.le_trans hsz1 (by simpa using hs3.size),fun b hb=>?_⟩
  rw [hs3.block b ⟨Nat.lt_of_lt_of_le hb.1 hsz1,hb' b hb.1 hb.2.1⟩,World.putObj_heap_other hb.2.2]
  exact hs1.block b ⟨hb.1,hb.2.1⟩
 have hl3' : w3.heap[l]? = some (.loop { r0 with state:=.busy }):=by
  rw [hs3.block l ⟨Nat.lt_of_lt_of_le hlw hsz1,hω'l⟩]
  exact World.putObj_heap_same (Nat.lt_of_lt_of_le hlw hsz1)
 have hmu3:Φ3.mu=μp:=hl3.mu.trans hl2.mu
 have hsub:∀b o u,Φu b o=some u→Φ'' b o=some u:=by
  intro b o u e
  have e2:Φ2.imm b o=some u:=by rw [hl2.imm];exact e
  refine (k3.ext b o u ?_).1
  rw [hl3.imm]
  show freshI Φ2.imm Φ' ω' b o=some u
  by_cases hh:∃p,ω' b=some p
  ·rw [freshI_own hh];exact e2
  ·rw [freshI_eq fun p e=>hh ⟨p,e⟩];exact (k1.ext b o u e2).1
 have hold:∀b o,b < w.heap.size→(∀p,ωm b≠some p)→Φ'' b o=Φu b o:=by
  intro b o h1 h2
  have h3:=hb' b h1 h2
  have e1:Φ' b o=Φu b o:=by
   rw [k1.old b o (hl2.old b ⟨h1,fun ⟨p,e⟩=>h2 p e⟩),hl2.imm]
  have hlt:b < w1.heap.size:=Nat.lt_of_lt_of_le h1 hsz1
  rw [k3.old b o (hl3.old b ⟨by simpa using hlt,fun ⟨p,e⟩=>h3 p e⟩),hl3.imm]
  show freshI Φ2.imm Φ' ω' b o=_
  rw [freshI_eq h3,e1]
 have hWr:∀b,Old Φr W1 b→b < w.heap.size∧(∀p,ωm b≠some p)∧b≠l:=fun b hb=>
  ⟨Nat.lt_of_lt_of_le hb.1 hgp.below.size,fun p e=>hgp.noOld hb p (hωm b p e).1,fun e=>hlold (e ▸ hb)⟩
 have hcJ:(∀t,LowI (Kn σ') (F.t t))→CJ Φr W1 M a0 l { σ' with t:=F.t } I K w3:=by
  intro hlow
  have hgT:RelG Φr W1 M Φ'' μ'' ω'' { σ' with t:=F.t } a0 w3:=by
   refine ⟨hgp.below.trans (hs.mono hWr),hgp.defers,hgp.size,k3.imm,fun b o hb=>?_,fun t=>?_,fun t n k cs E e=>?_,fun id bs e=>?_,k3.gone,k3.lt,hgp.gmu,fun i g e hi=>?_,fun b o u e=>?_,fun id X e=>?_,fun g p e=>?_⟩
   ·obtain ⟨q1,q2,-⟩:=hWr b hb
    rw [hold b o q1 q2,hun b o (hnI b hb)]
    exact hgp.old b o hb
   ·refine ((hgp.tmps t).mono hup (fun _ _ e=>e)).lowI (hlow t) (fun i hi g e=>?_) |>.mono hsub (fun _ _ e=>e)
    exact k3.kmu i g (by rw [hmu3];exact e) hi.spec
   ·have h':=hF.t t
    have e' : F.t t = .sl n k cs (some E):=e
    rw [e'] at h'
    simp [PV.ownB] at h'
   ·exact (k3.box id bs e).inB (fun g q _ e=>by
     rcases hω'' g q e with ⟨q',hq'⟩|hq'
     ·exact hgp.mine g q' (hωm g q' hq').1
     ·exact .inl (Nat.le_trans hgp.below.size hq'))
   ·have hkF:=hkn i g e
    exact k3.kmu i g (by rw [hmu3];exact hgp.kmu i g e hkF.spec) hi
   ·have h':=hgp.ext b o u e
    exact ⟨hsub b o u (hup b o u h'.1),h'.2⟩
   ·exact (k3.map id X e).inB (fun g q _ e=>by
     rcases hω'' g q e with ⟨q',hq'⟩|hq'
     ·exact hgp.mine g q' (hωm g q' hq').1
     ·exact .inl (Nat.le_trans hgp.below.size hq'))
   ·rcases hω'' g p e with ⟨q',hq'⟩|hq'
    ·exact hgp.mine g q' (hωm g q' hq').1
    ·exact .inl (Nat.le_trans hgp.below.size hq')
  have hnω:∀g,g < w.heap.size→(∀p,ωp g≠some p)→∀p,ω'' g≠some p:=fun g h1 h2 p e=>by
   rcases hω'' g p e with ⟨q,hq⟩|hq
   ·exact h2 q (hωm g q hq).1
   ·omega
  refine ⟨Φ'',μ'',ω'',hgT,fun g hi=>hnω g (hI g hi).2 (hc1 g hi),hnω l hlw hc2,fun b o u hi e=>?_,fun g hi=>(hI g hi).1⟩
  rw [hold b o (hI b hi).2 (fun p e=>hc1 b hi p (hωm b p e).1)] at e
  rcases hue b o u e with h' | h'
  ·exact hc3 b o u hi h'
  ·exact h'.2
 have hlw3:l < w3.heap.size:=Nat.lt_of_lt_of_le hlw hs.size
 have hIw3:∀g,I g→g < w3.heap.size:=fun g hi=>Nat.lt_of_lt_of_le (hI g hi).2 hs.size
 refine ⟨⟨hl3',hs.mono fun g hg=>?_,fun b o u e=>k3.imm b o u (hsub b o u (huK b o u e))⟩,?_⟩
 ·rcases hg with hi|⟨h1,h2⟩
  ·exact ⟨(hI g hi).2,fun p e=>hc1 g hi p (hωm g p e).1,fun e=>by have:=(hI g hi).1;omega⟩
  ·have hgl:g≠l:=by rintro rfl;exact h2 hmix
   exact ⟨Nat.lt_of_lt_of_le h1 hgp.below.size,fun p e=>h2 (hgivm g h1 (hgp.mine g p (hωm g p e).1) hgl),hgl⟩
 ·have hout:∀Q0:PS→Prop,roundOut M o L F.t Q0 σ'→∃G σe,CJ Φr W1 M a0 l G I K w3∧(∀i,Kn G i→i∈L)∧SubR (fun i=>i+o) (Kn σe) G σe∧Q0 σe:=by
   rintro Q0 ⟨h1,G,σe,h2,h3,h4,h5⟩
   exact ⟨G,σe,(hcJ h1).sub h2 hlw3 hIw3,h3,h4,h5⟩
  cases e with
  |normal=>exact ⟨hq'.1,(hcJ hq'.2.2).sub hq'.2.1 hlw3 hIw3⟩
  |ret=>exact hout _ hq'
  |exit i=>exact hout _ hq'
  |goto i=>exact hout _ hq'
  |panic ch=>exact hq'.elim
  |outgrown=>exact hq'.elim
end
section
open Go.RowKit
variable {M:Nat} {Q:Exit→PS→Prop} {σ:PS} {P:Program}
theorem enter_run {Φ0:Ent} {W:World} {Φ:Imm} {μ:Nat→Option Nat} {ω:Nat→Option Who} {a:Act} {w:World} (h:RelG Φ0 W M Φ μ ω σ a w) (fn:FuncId) (ps:Array Tmp) (assign body:Code) :
  ∃(l:Nat) (ms:List Nat) (df:Nat) (W1:World),(Instr.enterLoop fn a.tmps ps assign body (FW Φ0.round).round).run P w = .ok (l,ms.map collD) W1∧W1.heap[l]? = some (.loop { state:=.ready,pending:=none,fn,tmps:=a.tmps,params:=ps,assign,body,defers:=df })∧w.heap.size≤l∧Kept (fun b=>b < w.heap.size) w W1∧ms.Nodup ∧
   ∀m∈ms,w.heap.size≤m∧m < W1.heap.size∧m≠l∧W1.heap[m]? = some (.deferred (some [])):=by
 show ∃(l:Nat) (ms:List Nat) (df:Nat) (W1:World),(Instr.enterLoop fn a.tmps ps assign body Φ0.round).run P w=_∧_
 cases hro:Φ0.round with
 |none=>
  refine ⟨w.heap.size+1,[w.heap.size],w.heap.size,_,run_enterLoop_outer _ _ _ _ _,?_,by omega,⟨rfl,rfl,rfl,by simp;omega,fun k hk=>?_⟩,by simp,fun m hm=>?_⟩
  ·have:=World.alloc_heap_new (w.alloc (.deferred (some []))) (.loop { state:=.ready,pending:=none,fn,tmps:=a.tmps,params:=ps,assign,body,defers:=w.heap.size })
   rwa [World.size_alloc] at this
  ·rw [Below.heap_alloc _ _ _ (by simp;omega),Below.heap_alloc _ _ _ hk]
  ·have:m=w.heap.size:=by simpa using hm
   subst this
   refine ⟨Nat.le_refl _,by simp;omega,by omega,?_⟩
   exact (Below.heap_alloc _ _ _ (by simp)).trans (World.alloc_heap_new w _)
 |some l0=>
  obtain ⟨q1,q2,r,q3⟩:=h.rnd hro
  refine ⟨w.heap.size,[],r.defers,w.alloc (.loop { state:=.ready,pending:=none,fn,tmps:=a.tmps,params:=ps,assign,body,defers:=r.defers }),?_,World.alloc_heap_new w _,Nat.le_refl _,⟨rfl,rfl,rfl,by simp,fun k hk=>Below.heap_alloc _ _ _ hk⟩,by simp,fun m hm=>by cases hm⟩
  unfold Instr.enterLoop
  simp only [Sem.run_bind,run_getLoop q3,Result.andThen,Sem.run_pure,run_newObj_alloc]
  rfl
def putps (σ:PS):List Nat→List PV→PS
 |p :: ps,x :: xs=>putps (σ.put p x) ps xs
 |_,_=>σ
theorem putps_eq:∀(ps:List Nat) (xs:List PV) (σ:PS),{ σ with t:=setps σ.t ps xs } = putps σ ps xs
 | [],_,_=>rfl
 |_ :: _,[],_=>rfl
 |p :: ps,x :: xs,σ=>putps_eq ps xs (σ.put p x)
theorem lowT_bot {S:Nat→Prop} : ∀t,LowI S (bot.t t):=fun _=>.undef
theorem lowT_put {S:Nat→Prop} {σ:PS} {d:Nat} {p:PV} (h:∀t,LowI S (σ.t t)) (hp:LowI S p):∀t,LowI S ((σ.put d p).t t):=by
 intro t
 simp only [PS.put,upd_if]
 split
 ·exact hp
 ·exact h t
theorem lowT_setb {S:Nat→Prop} {σ:PS} {d:Nat} {bs:List PV} (h:∀t,LowI S (σ.t t)):∀t,LowI S ((σ.setb d bs).t t):=h
theorem lowT_setm {S:Nat→Prop} {σ:PS} {d:Nat} {X:PMap} (h:∀t,LowI S (σ.t t)):∀t,LowI S ((σ.setm d X).t t):=h
theorem roundP {o:Nat} {L:List Nat} {T:Nat→PV} {F' : PS} {Ip:Prop} (h1:Ip) (h2:Sub M { σ with t:=T } F') (h3:∀t,LowI (Kn σ) (T t)):RoundP M o L T F' Ip Q .normal σ:=⟨h1,h2,h3⟩
theorem roundP_ret {o:Nat} {L:List Nat} {T:Nat→PV} {F' : PS} {Ip:Prop} (G σe:PS) (h1:∀t,LowI (Kn σ) (T t)) (h2:Sub M { σ with t:=T } G) (h3:∀i,Kn G i→i∈L) (h4:SubR (fun i=>i+o) (Kn σe) G σe) (h5:Q .ret σe):RoundP M o L T F' Ip Q .ret σ:=⟨h1,G,σe,h2,h3,h4,h5⟩
open Classical in
theorem PW.rangeFunc {g:Operand} {ps:Array Tmp} {assign body:Code} {f:FuncId} {caps:List PV} {A S:List (List PV)→Prop} (o:Nat) (L:List Nat) (F:List (List PV)→PS) (I0:List (List PV)→Prop) (hI0:I0 [])
  (hg:pev σ g = .fn f caps) (hf:Nat.blt f 1000000=true) (hlow:∀p∈caps,Low p) (hit:ItSpec P f caps A S) (hin:SubR (fun i=>i - o) (Kn (F [])) σ (F []))
  (hk1:∀pre i,Kn (F pre) i→i∈L) (hk2:∀pre,∀i∈L,Kn (F pre) i) (hL:L.all (fun i=>Nat.ble o i)=true) (ho:1000000≤o) (hF:∀pre,OwnsS (F pre)) (hps:∀p∈ps.toList,p < M)
  (hx:∀pre x,A (pre ++ [x])→ps.toList.length=x.length∧∀p∈x,Low p∧p.ownB=false)
  (round:∀pre x,I0 pre→A (pre ++ [x])→PW P M assign (NormP fun σ1=>PW P M body (RoundP M o L (F pre).t (F (pre ++ [x])) (I0 (pre ++ [x])) Q) σ1) (putps (F pre) ps.toList x))
  (done:∀xs,S xs→I0 xs→∃σe,SubR (fun i=>i+o) (Kn σe) (F xs) σe∧Q .normal σe):PW P M (.rangeFunc g ps assign body) Q σ:=by
 intro Φ0 W a w ⟨Φ,μ,ω,hg0⟩
 refine wpIn_rangeFunc ?_
 intro fn hfn
 obtain ⟨l,ms,df,W1,hent,hl1,hlw,hkW,hnd,hms⟩:=enter_run (P:=P) hg0 fn ps assign body
 obtain ⟨rec,hrec⟩:∃rec:LoopState→Option Code→Loop,rec=fun st pe=>{ state:=st,pending:=pe,fn,tmps:=a.tmps,params:=ps,assign,body,defers:=df }:=⟨_,rfl⟩
 have hl1' : W1.heap[l]? = some (.loop (rec .ready none)):=by rw [hrec];exact hl1
 have hlW:l < W1.heap.size:=(Array.getElem?_eq_some_iff.1 hl1).1
 -- the iterator's value
 have hev:=hg0.ev g
 rw [hg] at hev
 have hlt:f < 1000000:=by simpa [Nat.blt_eq] using hf
 obtain ⟨us,hgv,hus⟩:∃us:List Value,a.eval g = .func (.func f) #[] us.toArray∧RepL Φ mu0 caps us:=by
  obtain ⟨us,e1,e2⟩:=hev.fn_inv
  refine ⟨us,?_,⟨e2.1,fun j p u h1 h2=>(e2.2 j p u h1 h2).low (hlow p (mem_of_get h1))⟩⟩
  rw [e1]
  unfold fnV
  rw [if_pos hlt]
 -- the caller's memory,under high numbers
 have hnum:∀i,Kn (F []) i→o≤i:=fun i hi=>Nat.le_of_ble_eq_true (List.all_eq_true.1 hL i (hk1 [] i hi))
 have hA:=hg0.fresh0 (mu:=fun _=>none) (fun _ _ e=>by cases e) (fun _ _ e=>by cases e)
 have hB:=hin.rel (fun i hi=>hi.spec) (fun i j hi hj e=>by have:=hnum i hi;have:=hnum j hj;have e' : i - o=j - o:=e;omega) (fun i hi g e=>by cases e) hA
 generalize hμ1:(fun i=>if Kn (F []) i then μ (i - o) else none)=μ1 at hB
 generalize hω1:(fun g=>unren (fun i=>i - o) (Kn (F [])) (ω g))=ω1 at hB
 obtain ⟨ω2,hC,hω2⟩:=hB.mixed (hF [])
 have hω:∀g p,ω2 g=some p→(∃q,ω g=some q)∧Mix Φ g∧g < w.heap.size:=by
  intro g p e
  have hlt':=hC.lt g p e
  rcases hC.mine g p e with h' | h'
  ·omega
  ·exact ⟨h',(hω2 g p e).2,hlt'⟩
 have hD:RelG (hg0.freshE fun _=>none) w M Φ μ1 ω2 (F []) a W1:=by
  refine hC.grow (hC.below.trans (hkW.mono fun b hb=>hb.1)) (fun b o u e=>?_) (fun _ _ _=>rfl) (fun _ _ _ e=>e) (fun g p e=>⟨hkW.block g (hω g p e).2.2,fun _=>rfl⟩) hkW.size
  have:=hg0.imm b o u e
  simp only [World.cell?] at this ⊢
  rw [hkW.block b (RelG.fresh hg0 e)];exact this
 have hω2l:∀p,ω2 l≠some p:=fun p e=>by have:=(hω l p e).2.2;omega
 have hΦl:∀j,Φ l j=none:=fun j=>by
  cases hh:Φ l j with
  |none=>rfl
  |some u=>have:=RelG.fresh hg0 hh;omega
 have hmixl:Mix Φ l:=fun o u e=>by rw [hΦl] at e;cases e
 let Φr:Ent:=⟨Φ,fun g=>(∃p,ω2 g=some p)∨g=l,μ1,hg0.glob,fun g hg' => hg'.elim (fun ⟨p,e⟩=>(hω g p e).2.1) (fun e=>e ▸ hmixl),ms ++ Φ0.marks,Φ0.round⟩
 let a0:Act:={ a with defers:=ms.map collD ++ a.defers }
 have hμk:∀i g,μ1 i=some g→Kn (F []) i∧μ (i - o)=some g:=by
  intro i g e
  rw [←hμ1] at e
  have e' : (if Kn (F []) i then μ (i - o) else none)=some g:=e
  split at e'
  ·rename_i hk;exact ⟨hk,e'⟩
  ·cases e'
 have hR:RelG Φr W1 M Φ μ1 ω2 (F []) a0 W1:=by
  refine hD.rebaseA rfl (Kept.refl _ _) ⟨?_,fun l0 e=>?_⟩ (fun b o hb=>rfl) (fun i g e=>Nat.le_trans ho (hnum i (hμk i g e).1)) (fun i g e _=>e) (fun b o u e=>⟨e,Nat.lt_of_lt_of_le (RelG.fresh hg0 e) hkW.size⟩) (fun g p e=>.inr (.inl ⟨p,e⟩))
  ·show ms.map collD ++ a.defers=(ms ++ Φ0.marks).map collD
   rw [hg0.defers.1,List.map_append]
  ·obtain ⟨q1,q2,r,q3⟩:=hg0.rnd e
   refine ⟨⟨Nat.lt_of_lt_of_le q1 hkW.size,fun hh=>?_⟩,r,(hkW.block l0 q1).trans q3⟩
   rcases hh with ⟨p,hp⟩|rfl
   ·obtain ⟨⟨q,hq⟩,-⟩:=hω l0 p hp;exact q2 q hq
   ·omega
 have hlold:¬Old Φr W1 l:=fun hh=>hh.2 (.inr rfl)
 -- what is known of the caller's memory
 let Out:Code→PS→PS→Prop:=fun c G σe=>(∀i,Kn G i→i∈L)∧SubR (fun i=>i+o) (Kn σe) G σe∧(match c with | .ret=>Q .ret σe | .exit i=>Q (.exit i) σe | .goto i=>Q (.goto i) σe|_=>False)
 let J:Come→(Nat→Prop)→Imm→World→Prop:=fun κ I K w' => l < w'.heap.size∧match κ with
  |some pre=>I0 pre∧w'.heap[l]? = some (.loop (rec .ready none))∧CJ Φr W1 M a0 l (F pre) I K w'
  |none=>∃c G σe,Out c G σe∧w'.heap[l]? = some (.loop (rec .done (some c)))∧CJ Φr W1 M a0 l G I K w'
 let E:ItEnv:=⟨J,fun {κ I I' K K' w1 w2} hJ hk hI hK hc=>by
  obtain ⟨hlt',hJ⟩:=hJ
  have hnl:∀{G:PS},CJ Φr W1 M a0 l G I K w1→w2.heap[l]? = w1.heap[l]?:=fun hcj=>hk.block l ⟨hlt',fun hi=>by obtain ⟨_,_,_,_,_,_,_,h4⟩:=hcj;have:=h4 l hi;omega⟩
  refine ⟨Nat.lt_of_lt_of_le hlt' hk.size,?_⟩
  cases κ with
  |some pre=>exact ⟨hJ.1,(hnl hJ.2.2).trans hJ.2.1,hJ.2.2.step hk hI hK hc⟩
  |none=>
   obtain ⟨c,G,σe,h1,h2,h3⟩:=hJ
   exact ⟨c,G,σe,h1,(hnl h3).trans h2,h3.step hk hI hK hc⟩⟩
 have hJ0:E.J (some []) (fun _=>False) Φ W1:=⟨hlW,hI0,hl1',Φ,μ1,ω2,hR,fun g h=>h.elim,hω2l,fun b o u h=>h.elim,fun g h=>h.elim⟩
 have hY:YOK P E l A Φ W1.heap.size:=by
  intro pre x I K w1 vs hAx hJ hI hK hK1 hK2 hKg hrep
  obtain ⟨hlt',hip,hlr,hcj⟩:=hJ
  obtain ⟨hxl,hxx⟩:=hx pre x hAx
  have hy:=run_yield (P:=P) (args:=vs.toArray) hlr (by rw [hrec];have:=hrep.1;simp at hxl ⊢; omega)
  rw [hrec] at hy
  refine ⟨fn,_,assign,body,hy,?_⟩
  have hrs:=round_sound (Φe:=Φ) (r0:=rec .ready none) (Q:=Q) (o:=o) (L:=L) (F:=F pre) (F':=F (pre ++ [x])) (ps:=ps.toList) (x:=x) (fun g h1 h2 h3=>by
    rcases h2 with h2|h2
    ·omega
    ·exact Φr.fl g h2) rfl (fun i g e=>hk2 pre i (hk1 [] i (hμk i g e).1)) (fun i hi=>Nat.le_trans ho (Nat.le_of_ble_eq_true (List.all_eq_true.1 hL i (hk1 pre i hi)))) hlW hlold hmixl (hF pre) hps hxl hxx (by rw [putps_eq];exact round pre x hip hAx) hcj hlr (by rw [hrec]) hI hK hK1 hK2 hrep
  have htm:(ps.zip vs.toArray).foldl (fun tmps (t,a)=>tmps.setIfInBounds t a) a.tmps=(ps.toList.zip vs).foldl (fun t (p,v)=>t.setIfInBounds p v) a0.tmps:=by
   rw [←Array.foldl_toList,Array.toList_zip]
  refine roundIn_of_wpIn trivial ?_
  simp only
  rw [htm]
  refine wpIn_mono hrs ?_
  rintro e a1 w2 hq
  cases e with
  |normal=>?_
  |_=>exact hq
  obtain ⟨w3,hbr,hbody⟩:=hq
  refine ⟨w3,hbr,wpIn_mono hbody ?_⟩
  rintro e a3 w4 ⟨⟨hl4,hk4,hK4⟩,hq⟩
  have hl4' : l < w4.heap.size:=(Array.getElem?_eq_some_iff.1 hl4).1
  have hnl:∀g,(I g∨(g < W1.heap.size∧¬Mix Φ g))→g≠l:=by
   rintro g (hi|⟨-,h2⟩) rfl
   ·have:=(hI g hi).1;omega
   ·exact h2 hmixl
  have fin:∀(jump:Option Code),(J (if jump.isNone then some (pre ++ [x]) else none) I K (w4.putObj l (.loop (rec (if jump.isNone then .ready else .done) jump))))→∃v w',(Instr.endRound l jump).run P w4 = .ok v w'∧(fun e w2=>∃b:Bool,e=Ending.returned (.bool b)∧E.J (if b then some (pre ++ [x]) else none) I K w2∧Kept (fun g=>I g∨(g < W1.heap.size∧¬Mix Φ g)) w1 w2∧(∀b o u,K b o=some u→w2.cell? ⟨b,o,none⟩=some u)) (.returned v) w':=by
   intro jump hJ'
   have:=run_endRound (P:=P) jump hl4
   rw [hrec] at this hJ'
   refine ⟨_,_,this,jump.isNone,rfl,hJ',hk4.trans ⟨rfl,rfl,rfl,by simp,fun k hk=>World.putObj_heap_other (hnl k hk)⟩,fun b o u e=>putObj_cell (loop_nocell hl4) (hK4 b o u e)⟩
  have same:∀r',(w4.putObj l (.loop r')).heap[l]? = some (.loop r'):=fun r' => World.putObj_heap_same hl4'
  cases e with
  |normal=>exact fin none ⟨by simpa using hl4',hq.1,same _,CJ.putLoop hq.2 hl4 hlold _⟩
  |ret=>
   obtain ⟨G,σe,h1,h2,h3,h4⟩:=hq
   exact fin (some .ret) ⟨by simpa using hl4', .ret,G,σe,⟨h2,h3,h4⟩,same _,CJ.putLoop h1 hl4 hlold _⟩
  |exit i=>
   obtain ⟨G,σe,h1,h2,h3,h4⟩:=hq
   exact fin (some (.exit i)) ⟨by simpa using hl4', .exit i,G,σe,⟨h2,h3,h4⟩,same _,CJ.putLoop h1 hl4 hlold _⟩
  |goto i=>
   obtain ⟨G,σe,h1,h2,h3,h4⟩:=hq
   exact fin (some (.goto i)) ⟨by simpa using hl4', .goto i,G,σe,⟨h2,h3,h4⟩,same _,CJ.putLoop h1 hl4 hlold _⟩
  |panic ch=>exact hq.elim
  |outgrown=>exact hq.elim
 -- the call of the iterator
 refine ⟨l,ms.map collD,W1,{ target:=.fn (.func f) us.toArray,args := #[.func (.yield l) #[] #[]] },W1,f,#[.func (.yield l) #[] #[]] ++ us.toArray,W1,hent,?_,fun f' _=>trivial,?_,(fun e=>by cases e),?_⟩
 ·simp only [resolve,hgv]
  simp [go_sem]
 ·simp [invoke,go_sem,run_callFunc hit.1]
 refine (Calls.inW (hit.2 E l Φ W1 us hR.imm hg0.glob hus hY hJ0)).mono ?_
 rintro e w2 ⟨v,κ,K,rfl,hS,hlt2,hJ2⟩
 -- behind the loop
 have back:∀(G σe:PS) (r' : Loop),(∀i,Kn G i→i∈L)→SubR (fun i=>i+o) (Kn σe) G σe→(∃r,w2.heap[l]? = some (.loop r))→CJ Φr W1 M a0 l G (fun _=>False) K w2→∃Φe We,Later Φ0 W Φe We∧Rel Φe We M σe a0 (w2.putObj l (.loop r')):=by
  rintro G σe r' hGL hsub ⟨r,hlr⟩ hcj
  obtain ⟨Φ3,μ3,ω3,h3,-,h3l,-,-⟩:=hcj.putLoop hlr hlold (.loop r')
  have h4:=hsub.rel (fun i hi=>hi.spec) (fun i j hi hj e=>by have e' : i+o=j+o:=e;omega) (fun i hi g e=>by cases e) (h3.fresh0 (mu:=fun _=>none) (fun _ _ e=>by cases e) (fun _ _ e=>by cases e))
  have hext:∀b o u,Φ0.imm b o=some u→Φ b o=some u∧b < W.heap.size:=hg0.ext
  have hWw:=hg0.below.size
  have hwW:=hkW.size
  have hold0:∀b,Old Φ0 W b→b < w.heap.size∧Old Φr W1 b:=by
   intro b hb
   have h1:b < w.heap.size:=Nat.lt_of_lt_of_le hb.1 hWw
   refine ⟨h1,Nat.lt_of_lt_of_le h1 hwW,fun hh=>?_⟩
   rcases hh with ⟨p,hp⟩|rfl
   ·obtain ⟨⟨q,hq⟩,-⟩:=hω b p hp;exact hg0.noOld hb q hq
   ·omega
  have holdm:∀m∈ms,Old Φr W1 m:=by
   intro m hm
   obtain ⟨q1,q2,q3,q4⟩:=hms m hm
   refine ⟨q2,fun hh=>?_⟩
   rcases hh with ⟨p,hp⟩|rfl
   ·have:=(hω m p hp).2.2;omega
   ·exact q3 rfl
  have hfl:∀g,(Mine Φ0 W g∧g < W1.heap.size∧g∉ms)→Mix Φ0.imm g:=by
   rintro g ⟨h',-⟩
   rcases h' with h' | h'
   ·intro o u e;have:=(hext g o u e).2;omega
   ·exact Φ0.fl g h'
  let Φe:Ent:=⟨Φ0.imm,fun g=>Mine Φ0 W g∧g < W1.heap.size∧g∉ms,Φ0.mu,Φ0.glob,hfl,ms ++ Φ0.marks,Φ0.round⟩
  have holdc:∀b,Old Φe W1 b→Old Φ0 W b∨b∈ms:=by
   rintro b ⟨hb1,hb2⟩
   by_cases hm:b∈ms
   ·exact .inr hm
   ·left
    by_cases hmi:Mine Φ0 W b
    ·exact absurd ⟨hmi,hb1,hm⟩ hb2
    ·exact ⟨Nat.lt_of_not_le fun hh=>hmi (.inl hh),fun hh=>hmi (.inr hh)⟩
  have holde:∀b,Old Φ0 W b→Old Φe W1 b:=fun b hb=>⟨(hold0 b hb).2.1,fun hh=>hh.1.ne hb rfl⟩
  have hkW0:Kept (Old Φ0 W) W W1:=hg0.below.trans (hkW.mono fun b hb=>(hold0 b hb).1)
  have hlat:Later Φ0 W Φe W1:=by
   refine ⟨rfl,rfl,rfl,hkW0,holde,fun g hg' => ?_,fun b hb=>(holdc b hb).imp id (fun h=>List.mem_append.2 (.inl h)),fun _ b o u e=>(hext b o u e).2,ms,rfl,hnd,fun m hm=>?_⟩
   ·rcases hg' with h' | h'
    ·exact .inl (Nat.le_trans hkW0.size h')
    ·exact h'.1
   ·obtain ⟨q1,q2,q3,q4⟩:=hms m hm
    exact ⟨Nat.le_trans hWw q1,⟨q2,fun hh=>hh.2.2 hm⟩,q4⟩
  refine ⟨Φe,W1,hlat,_,_,_,h4.rebase (h3.below.mono fun b hb=>?_) ⟨?_,fun l0 e=>?_⟩ (fun b o hb=>?_) hg0.gmu (fun i g e hi=>?_) (fun b o u e=>?_) (fun g p e=>?_)⟩
  ·rcases holdc b hb with h' | h'
   ·exact (hold0 b h').2
   ·exact holdm b h'
  ·exact h3.defers.1
  ·obtain ⟨q1,q2⟩:=hg0.defers.2 l0 e
   obtain ⟨r0,q2⟩:=q2
   exact ⟨holde l0 q1,r0,(hkW0.block l0 q1).trans q2⟩
  ·rcases holdc b hb with h' | h'
   ·rw [h3.old b o (hold0 b h').2]
    exact hg0.old b o h'
   ·obtain ⟨q1,q2,q3,q4⟩:=hms b h'
    rw [h3.old b o (holdm b h')]
    show Φ b o=Φ0.imm b o
    have e1:Φ b o=none:=by
     cases hh:Φ b o with
     |none=>rfl
     |some u=>have:=RelG.fresh hg0 hh;omega
    have e2:Φ0.imm b o=none:=by
     cases hh:Φ0.imm b o with
     |none=>rfl
     |some u=>have:=(hext b o u hh).2;omega
    rw [e1,e2]
  ·have hSi:Kn σe i∧Kn G (i+o):=by
    rcases hi with hi|hi
    ·obtain ⟨qs,hqs⟩:=Option.ne_none_iff_exists'.1 hi
     obtain ⟨h1,ps',h2,-⟩:=hsub.b i qs hqs
     exact ⟨h1,Kn.ofb h2⟩
    ·obtain ⟨qs,hqs⟩:=Option.ne_none_iff_exists'.1 hi
     obtain ⟨h1,ps',h2,-⟩:=hsub.m i qs hqs
     exact ⟨h1,Kn.ofm h2⟩
   have hkF:Kn (F []) (i+o):=hk2 [] _ (hGL _ hSi.2)
   have hσ:σ.b i≠none∨σ.m i≠none:=by
    rcases hkF.spec with h' | h'
    ·obtain ⟨qs,hqs⟩:=Option.ne_none_iff_exists'.1 h'
     obtain ⟨-,ps',h2,-⟩:=hin.b _ qs hqs
     left;simp only [Nat.add_sub_cancel] at h2;rw [h2];simp
    ·obtain ⟨qs,hqs⟩:=Option.ne_none_iff_exists'.1 h'
     obtain ⟨-,ps',h2,-⟩:=hin.m _ qs hqs
     right;simp only [Nat.add_sub_cancel] at h2;rw [h2];simp
   have h5:μ i=some g:=hg0.kmu i g e hσ
   have h6:μ1 (i+o)=some g:=by
    rw [←hμ1]
    show (if _ then _ else _)=_
    rw [if_pos hkF,Nat.add_sub_cancel];exact h5
   show (if Kn σe i then μ3 (i+o) else none)=some g
   rw [if_pos hSi.1]
   exact h3.kmu (i+o) g h6 hSi.2.spec
  ·have h':=hext b o u e
   exact ⟨(h3.ext b o u h'.1).1,Nat.lt_of_lt_of_le h'.2 (Nat.le_trans hWw hwW)⟩
  ·have h' : ∃q,ω3 g=some q:=by
    have h1:=h4.mine g p e
    have h2:=h4.lt g p e
    rcases h1 with h1|h1
    ·simp at h1 h2;omega
    ·exact h1
   obtain ⟨q,hq⟩:=h'
   have hgl:g≠l:=by rintro rfl;exact h3l q hq
   rcases h3.mine g q hq with h1|h1
   ·exact .inl h1
   ·rcases h1 with ⟨p',hp'⟩|h1
    ·obtain ⟨⟨q',hq'⟩,-,hlt'⟩:=hω g p' hp'
     refine .inr ⟨hg0.mine g q' hq',Nat.lt_of_lt_of_le hlt' hwW,fun hm=>?_⟩
     have:=(hms g hm).1;omega
    ·exact absurd h1 hgl
 cases κ with
 |some xs=>
  obtain ⟨hip,hlr,hcj⟩:=hJ2
  obtain ⟨σe,h1,h2⟩:=done xs (hS xs rfl) hip
  have hend:=run_endLoop (P:=P) hlr (by rw [hrec];simp)
  rw [hrec] at hend
  obtain ⟨Φe,We,h3,h4⟩:=back (F xs) σe { rec .ready none with state:=.exhausted } (fun i hi=>hk1 xs i hi) h1 ⟨_,hlr⟩ hcj
  rw [hrec] at h4
  exact ⟨none,_,hend,σe,Φe,We,h2,h3,h4⟩
 |none=>
  obtain ⟨c,G,σe,⟨h1,h2,h3⟩,hlr,hcj⟩:=hJ2
  have hend:=run_endLoop (P:=P) hlr (by rw [hrec];simp)
  rw [hrec] at hend
  obtain ⟨Φe,We,h4,h5⟩:=back G σe { rec .done (some c) with state:=.exhausted } h1 h2 ⟨_,hlr⟩ hcj
  rw [hrec] at h5
  refine ⟨some c,_,hend,?_⟩
  simp only
  cases c with
  |ret=>exact wpIn_ret ⟨σe,Φe,We,h3,h4,h5⟩
  |exit i=>exact wpIn_exit ⟨σe,Φe,We,h3,h4,h5⟩
  |goto i=>exact wpIn_goto ⟨σe,Φe,We,h3,h4,h5⟩
  |_=>exact h3.elim
end
section
open Go.RowKit
def MidP {α:Type} (M:Nat) (st:α→PS) (I:α→Prop) (Q:Exit→PS→Prop):Exit→PS→Prop
 | .normal,σ=>∃x,I x∧Sub M σ (st x)
 |e,σ=>Q e σ
end
section
open Go.RowKit
variable {P:Program} {M:Nat} {Q:Exit→PS→Prop} {σ:PS}
theorem midP {α:Type} {st:α→PS} {I:α→Prop} (x:α) (hi:I x) (hs:Sub M σ (st x)):MidP M st I Q .normal σ:=⟨x,hi,hs⟩
theorem midP_ret {α:Type} {st:α→PS} {I:α→Prop} (h:Q .ret σ):MidP M st I Q .ret σ:=h
theorem PW.cutT {α:Type} {c y:Code} (st:α→PS) (I:α→Prop) (h1:PW P M c (MidP M st I Q) σ) (h2:∀x,I x→PW P M y Q (st x)):PW P M c (ThenP P M y Q) σ:=by
 refine PW.conseq h1 fun e σ' h=>?_
 cases e with
 |normal=>
  obtain ⟨x,hx,hs⟩:=h
  exact PW.sub (h2 x hx) hs
 |_=>exact h
end
section
open Go.RowKit
variable {P:Program} {T:Tab} {σ:PS} {o:Oper} {i base:Nat} {ops:Array Oper} {ok:Nat→Nat→Bool} {rest:List (Nat×Oper)} {K:PS→Prop}
theorem PWops.mkMG {d:Nat} {t:TypeId} (hg:pguard ops σ o=some true) (hd:o.dst=some d) (hop:o.op = .makeMap t none) (hb:σ.freeB (base+i)=true)
  (kn:PWops P T ops base ok rest K ((σ.setm (base+i) (.map [] 0)).put d (.mref (base+i)))):PWops P T ops base ok ((i,o) :: rest) K σ:=by
 refine PWops.stepM hg (E:=⟨.mref (base+i),[],none,[(base+i, .map [] 0)]⟩) ?_ hb (by rw [hd];exact kn)
 have h1:(σ.only (ok i)).b (base+i)=none∧(σ.only (ok i)).m (base+i)=none:=by
  obtain ⟨q1,q2⟩:=PS.freeB_spec hb
  simp only [PS.only,q1,q2]
  constructor<;>split<;>rfl
 simp only [hop,presM,h1.1,h1.2]
theorem PWops.mins {mid clock kt et:Nat} {x k v:Operand} {t:TypeId} {es:List (Nat×PV×PV)} {kv:Value} {ti ki:TyI} {X:PMap} {p:PV} (hg:pguard ops σ o=some true) (hd:o.dst=none) (hop:o.op = .insert t x k v) (hx:pev σ x = .mref mid) (hm:(σ.only (ok i)).m mid=some (.map es clock)) (hkv:pev σ k = .val kv) (ht:T.at t=some ti) (hk:ti.kind = .map kt et) (hki:T.at kt=some ki) (hb:σ.freeB (base+i)=true)
  (hn:(ownPV σ v).ownB=false) (hv:pev σ v=p) (hput:Go.Proofs.YtoamkpgaaanafaaGreat.mput ki es clock kv p=some X) (kn:PWops P T ops base ok rest K (σ.setm mid X)):PWops P T ops base ok ((i,o) :: rest) K σ:=by
 refine PWops.stepM hg (E:=⟨.tup [],[],none,[(mid,X)]⟩) ?_ hb ?_
 ·have hn' : (ownPV (σ.only (ok i)) v).ownB=false:=by cases v<;>exact hn
  simp only [hop,presM,pput,ht,hk,hki,pev_only,hx,mapOf,hm,hkv,ownArg,hn',Bool.false_eq_true,if_false,hv,hput,Option.map_some]
 ·rw [hd];exact kn
end
end Go.Proofs.YtoamkpgaaanafaaGreat
