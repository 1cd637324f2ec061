/- Out of: PwZ6, PwRn, PwOw, PwIt4, PwIt5, PwIt6, Sg, PwLd, Ta, Db, Dc, Dd, De, Df, Dh, Ja, Ha, Hb. -/
import Derived.Test.YtmeekbjhpidcgaaGreatDoorG30
import Derived.Test.YtmeekbjhpidcgaaGreatDoorG31
namespace Go.Proofs.YtmeekbjhpidcgaaGreatDoor
set_option linter.unusedSimpArgs false
set_option linter.unusedVariables false
set_option linter.unnecessarySimpa false
section
open Go.RowKit
variable {Φ0:Ent} {W:World} {M:Nat} {Φ:Imm} {μ:Nat→Option Nat} {ω:Nat→Option Who} {σ:PS} {a:Act} {w:World} {P:Program} {T:Tab}
theorem Sub.freezeI {σ' : PS} {id s off:Nat} {cs:List PV} (hb:σ.b id=some cs) (hs:σ.t s = .ptr id off) (hlow:∀c∈cs,LowI (Kn σ') c) (hsub:SubR (fun i=>i) (Kn σ') σ σ') (hid:σ'.freeB id=true):Sub M σ (σ'.put s (.ep cs off)):=by
 rintro Φ0 W a w ⟨Φ,μ,ω,hg⟩
 have h1:=hsub.rel (fun i hi=>hi.spec) (fun i j _ _ e=>e) (fun i _ _ _=>rfl) hg
 obtain ⟨g,cur,Ty,b1,b2,b3,b4,b5,b6,b7⟩:=hg.box id cs hb
 have hun:unren (fun i=>i) (Kn σ') (ω g)=none:=by
  rw [b4]
  unfold unren
  split
  ·rename_i h2;cases h2
  ·split
   ·rename_i hh
    obtain ⟨q,⟨i,hi,hq⟩,e⟩:=hh
    exfalso
    rcases hq with rfl|⟨j,rfl⟩
    ·simp only [renW,Option.some.injEq,Who.box.injEq] at e
     subst e
     rw [Kn,hid] at hi;cases hi
    ·simp [renW] at e
   ·rfl
 have h2:=h1.still b2 b3 hun b5
 refine ⟨_,_,_,h2.see ?_ rfl⟩
 have hv:=hg.tmps s
 rw [hs] at hv
 obtain ⟨g',hg',hvv⟩:=hv.ptr_inv
 rw [b1] at hg'; cases hg'
 rw [hvv]
 have e0:(⟨g,off,none⟩:Addr)=⟨g,0+off,none⟩:=by rw [Nat.zero_add]
 rw [e0]
 refine .ep cs off g 0 (fun j=>cur.getD j undef) (fun j hj=>?_) (fun j c hc=>?_)
 ·unfold immRow
  rw [if_pos rfl,Nat.zero_add,Array.getD_eq_getD_getElem?]
  rw [Array.getElem?_eq_getElem (by omega)];rfl
 ·obtain ⟨u,r1,r2,r3,-⟩:=b7 j c hc
  rw [Array.getD_eq_getD_getElem?,r1]
  refine Rep.mono (Φ:=Φ) (fun b o u e=>?_) (fun _ _ e=>e) (r3.lowI (hlow c (mem_of_get hc)) (fun i hi g e=>(if_pos hi).trans e))
  unfold immRow
  rw [if_neg]
  ·exact e
  ·rintro rfl;rw [b5] at e;cases e
theorem Sub.freezeP {σ' : PS} {id s off:Nat} {cs:List PV} (hb:σ.b id=some cs) (hs:σ.t s = .ptr id off) (hlow:∀c∈cs,Low c) (hsub:SubR (fun i=>i) (Kn σ') σ σ') (hid:σ'.freeB id=true):Sub M σ (σ'.put s (.ep cs off)):=
 Sub.freezeI hb hs (fun c hc=>(hlow c hc).lowI) hsub hid
theorem PW.freezeI {σ' : PS} {id s off:Nat} {cs:List PV} {c:Code} {Q:Exit→PS→Prop} (hb:σ.b id=some cs) (hs:σ.t s = .ptr id off) (hlow:∀c∈cs,LowI (Kn σ') c) (hsub:SubR (fun i=>i) (Kn σ') σ σ') (hid:σ'.freeB id=true) (h:PW P M c Q (σ'.put s (.ep cs off))):PW P M c Q σ:=
 h.sub (Sub.freezeI hb hs hlow hsub hid)
theorem PW.freezeP {σ' : PS} {id s off:Nat} {cs:List PV} {c:Code} {Q:Exit→PS→Prop} (hb:σ.b id=some cs) (hs:σ.t s = .ptr id off) (hlow:∀c∈cs,Low c) (hsub:SubR (fun i=>i) (Kn σ') σ σ') (hid:σ'.freeB id=true) (h:PW P M c Q (σ'.put s (.ep cs off))):PW P M c Q σ:=
 h.sub (Sub.freezeP hb hs hlow hsub hid)
end
section
open Go.RowKit
variable {P:Program} {T:Tab} {σ:PS} {o:Oper} {i base:Nat} {ops:Array Oper} {ok:Nat→Nat→Bool} {rest:List (Nat×Oper)} {K:PS→Prop}
theorem PWops.bytS {d e kk by_ n:Nat} {zr out:List PV} {s:ByteArray} {x:Operand} {ts td:TypeId} {si di ei:TyI} (hg:pguard ops σ o=some true) (hd:o.dst=some d) (hop:o.op = .convert ts td x) (hx:pev σ x = .val (.string s)) (hs:T.at ts=some si) (ht:T.at td=some di) (hk1:si.kind = .str) (hk2:di.kind = .slice e kk by_ zr) (he:T.at e=some ei) (hke:ei.kind = .int .u8) (htd:Nat.beq td strT=false) (hb:σ.freeB (base+i)=true) (hsz:s.size≤1000000000) (hn:s.size=n) (hout:strC s=out)
  (kn:PWops P T ops base ok rest K (σ.put d (.sl n 1 out none))):PWops P T ops base ok ((i,o) :: rest) K σ:=by
 subst hout hn
 refine PWops.stepM hg (E:=⟨.sl s.size 1 (strC s) none,[],none,[]⟩) ?_ hb (by rw [hd];exact kn)
 simp only [hop,presM,htd,Bool.false_eq_true,if_false,hs,ht,pev_only,hx,pbytS,hk1,hk2,he,hke,if_pos hsz,Option.map_some]
theorem PWops.slcE {d n k:Nat} {e:TypeId} {ag:Bool} {cs:List PV} {x:Operand} {t:TypeId} {ti:TyI} (hg:pguard ops σ o=some true) (hd:o.dst=some d) (hop:o.op = .slice t x none none none) (hx:pev σ x = .ep cs 0) (ht:T.at t=some ti) (hk:ti.kind = .arr n e k ag) (hb:σ.freeB (base+i)=true) (hl:cs.length=n * k) (hn:0 < n∧n≤1000000000)
  (kn:PWops P T ops base ok rest K (σ.put d (.sl n k cs (some (e+1000000))))):PWops P T ops base ok ((i,o) :: rest) K σ:=by
 refine PWops.stepM hg (E:=⟨.sl n k cs (some (e+1000000)),[],none,[]⟩) ?_ hb (by rw [hd];exact kn)
 simp only [hop,presM,ht,pev_only,hx,Option.map_none,parr,hk]
 rw [if_pos ⟨hl,hn.1,hn.2⟩];rfl
end
section
open Go.RowKit
def renN:List (Nat×Nat)→Nat→Nat
 | [],i=>i
 |(a,b) :: l,i=>cond (Nat.beq i a) b (renN l i)
theorem renN_mem:∀{l:List (Nat×Nat)} {i:Nat},i∈l.map (·.1)→(i,renN l i)∈l
 | [],i,h=>by simp at h
 |(a,b) :: l,i,h=>by
  unfold renN
  cases e:Nat.beq i a with
  |true=>
   have e':=Nat.eq_of_beq_eq_true e
   subst e'; exact List.mem_cons_self ..
  |false=>
   refine List.mem_cons_of_mem _ (renN_mem ?_)
   rcases List.mem_cons.1 h with rfl|h
   ·rw [Nat.beq_refl] at e;cases e
   ·exact h
theorem renN_inj {l:List (Nat×Nat)} (h2:(l.map (·.2)).Nodup):∀i∈l.map (·.1),∀j∈l.map (·.1),renN l i=renN l j→i=j:=by
 intro i hi j hj e
 have h3:=renN_mem hi
 have h4:=renN_mem hj
 rw [e] at h3
 have key:∀{l:List (Nat×Nat)} {a b c:Nat},(l.map (·.2)).Nodup→(a,c)∈l→(b,c)∈l→a=b:=by
  intro l
  induction l with
  |nil=>intro a b c _ h;simp at h
  |cons x l ih=>
   intro a b c hn ha hb
   simp only [List.map_cons,List.nodup_cons] at hn
   rcases List.mem_cons.1 ha with ha|ha<;>rcases List.mem_cons.1 hb with hb|hb
   ·rw [←ha] at hb;cases hb;rfl
   ·exact absurd (List.mem_map.2 ⟨_,hb,by rw [←ha]⟩) hn.1
   ·exact absurd (List.mem_map.2 ⟨_,ha,by rw [←hb]⟩) hn.1
   ·exact ih hn.2 ha hb
 exact key h2 h3 h4
end
section
open Go.RowKit
variable {S:Nat→Prop}
theorem li_nil:∀p∈([]:List PV),LowI S p:=by simp
theorem li_cons {p:PV} {ps:List PV} (h:LowI S p) (hs:∀q∈ps,LowI S q):∀q∈p :: ps,LowI S q:=by
 intro q hq
 rcases List.mem_cons.1 hq with rfl|hq
 ·exact h
 ·exact hs q hq
theorem li_low {ps:List PV} (h:∀p∈ps,Low p):∀p∈ps,LowI S p:=fun p hp=>(h p hp).lowI
theorem lb_nil:∀x∈([]:List (Nat×List PV)),∀p∈x.2,LowI S p:=by simp
theorem lb_cons {i:Nat} {bs:List PV} {l:List (Nat×List PV)} (h:∀p∈bs,LowI S p) (hs:∀x∈l,∀p∈x.2,LowI S p):∀x∈(i,bs) :: l,∀p∈x.2,LowI S p:=by
 intro x hx
 rcases List.mem_cons.1 hx with rfl|hx
 ·exact h
 ·exact hs x hx
theorem lm_nil:∀x∈([]:List (Nat×PMap)),LowM S x.2:=by simp
theorem lm_cons {i:Nat} {es:List (Nat×PV×PV)} {c:Nat} {l:List (Nat×PMap)} (h:∀e∈es,Low e.2.1∧Low e.2.2) (hs:∀x∈l,LowM S x.2):∀x∈(i,PMap.map es c) :: l,LowM S x.2:=by
 intro x hx
 rcases List.mem_cons.1 hx with rfl|hx
 ·exact fun e he=>⟨(h e he).1.lowI,(h e he).2.lowI⟩
 ·exact hs x hx
end
section
open Go.RowKit
variable {ρ:Nat→Nat} {S:Nat→Prop} {ps qs:List PV}
theorem ren_agg (h:RenL ρ S ps qs):Ren ρ S (.agg ps) (.agg qs):=.agg _ _ h.1 h.2
theorem ren_fn {f:FuncId} (h:RenL ρ S ps qs):Ren ρ S (.fn f ps) (.fn f qs):=.fn _ _ _ h.1 h.2
theorem ren_sl {n k:Nat} (h:RenL ρ S ps qs):Ren ρ S (.sl n k ps none) (.sl n k qs none):=.sl _ _ _ _ h.1 h.2
end
section
open Go.RowKit
theorem HCalls.at {P:Program} {f:FuncId} {args args' : List PV} {given given' res res' : List (Nat×List PV)} {gm gm' rm rm' : List (Nat×PMap)} {r r' : PV} (h:HCalls P f args given gm r res rm) (L:List (Nat×Nat)) (hd:(L.map (·.2)).Nodup) (hs:∀i∈ResIds res rm,i∈L.map (·.1)) (hs1:∀i∈given.map (·.1),i∈res.map (·.1)) (hs2:∀i∈gm.map (·.1),i∈rm.map (·.1))
  (ha:RenL (renN L) (fun i=>i∈ResIds given gm) args args') (hg:RenB (renN L) (fun i=>i∈ResIds given gm) given given') (hm:RenMs (renN L) (fun i=>i∈ResIds given gm) gm gm')
  (hr:Ren (renN L) (fun i=>i∈ResIds res rm) r r') (hres:RenB (renN L) (fun i=>i∈ResIds res rm) res res') (hrm:RenMs (renN L) (fun i=>i∈ResIds res rm) rm rm'):HCalls P f args' given' gm' r' res' rm':=
 h.ren (renN L) hs1 hs2 (fun i hi j hj e=>renN_inj hd i (hs i hi) j (hs j hj) e) ha hg hm hr hres hrm
def GivO (ω:Nat→Option Who) (ids:List Nat) (args:List PV) (g:Nat):Prop:=Giv ω ids g∨∃(i:Nat) (p:PV),args[i]? = some p∧p.ownB=true∧ω g=some (.tmp i)
def NewO (ω:Nat→Option Who) (w:World) (ids:List Nat) (args:List PV) (g:Nat):Prop:=w.heap.size≤g∨GivO ω ids args g
def OPost (Φ:Imm) (μ:Nat→Option Nat) (ω:Nat→Option Who) (w:World) (ids:List Nat) (args:List PV) (r:PV) (res:List (Nat×List PV)) (rm:List (Nat×PMap)) (e:Ending) (w' : World):Prop:=
 ∃v Φ' μ' ω',e = .returned v∧Rep Φ' μ' r v∧(∀b o u,Φ' b o=some u→w'.cell? ⟨b,o,none⟩=some u)∧(∀b o u,Φ b o=some u→Φ' b o=some u)∧(∀b o,b < w.heap.size→¬GivO ω ids args b→Φ' b o=Φ b o) ∧
  Kept (fun b=>b < w.heap.size∧¬GivO ω ids args b) w w'∧(∀id∈ids,μ' id=μ id)∧(∀id g,μ' id=some g→id∈ResIds res rm)∧(∀x∈res,BoxAt (NewO ω w ids args) Φ' μ' ω' w' x.1 x.2)∧(∀x∈rm,MapAt (NewO ω w ids args) Φ' μ' ω' w' x.1 x.2) ∧
  (∀g p,ω' g=some p→g < w'.heap.size∧NewO ω w ids args g)∧(∀n k cs E,r = .sl n k cs (some E)→OwnAt (NewO ω w ids args) Φ' ω' w' (.tmp 0) n k E v)
def OCalls (P:Program) (f:FuncId) (args:List PV) (given:List (Nat×List PV)) (gm:List (Nat×PMap)) (r:PV) (res:List (Nat×List PV)) (rm:List (Nat×PMap)):Prop:=
 callB P f=true∧∀(Φ:Imm) (μ:Nat→Option Nat) (ω:Nat→Option Who) (w:World) (vs:List Value),(∀b o u,Φ b o=some u→w.cell? ⟨b,o,none⟩=some u)→GlobOK Φ→RepL Φ μ args vs →
  (∀x∈given,BoxAt (fun _=>True) Φ μ ω w x.1 x.2)→(∀x∈gm,MapAt (fun _=>True) Φ μ ω w x.1 x.2)→(∀g p,ω g=some p→g < w.heap.size) →
  (∀(i n k:Nat) (cs:List PV) (E:TypeId) (v:Value),args[i]? = some (PV.sl n k cs (some E))→vs[i]? = some v→OwnAt (fun _=>True) Φ ω w (.tmp i) n k E v)→Calls P f vs.toArray w (OPost Φ μ ω w (ResIds given gm) args r res rm)
theorem own_mix {Φ:Imm} {μ:Nat→Option Nat} {n k g cap:Nat} {cs:List PV} {own:Option TypeId} (hr:Rep Φ μ (.sl n k cs own) (.slice (some ⟨g,0,none⟩) n cap)) (hf:∀j,n * k≤j→Φ g j=none) (hc:cs = []∨∃(j:Nat) (c:PV),cs[j]? = some c∧noI64 c=true):Mix Φ g:=by
 intro o u e
 obtain ⟨a,b,off,cap',us,hv,-,-,q3,q4,q5,q6⟩:=hr.sl_inv
 have ho:o < n * k:=by
  rcases Nat.lt_or_ge o (n * k) with h|h
  ·exact h
  ·rw [hf o h] at e;cases e
 have hn:0 < n:=by
  rcases Nat.eq_zero_or_pos n with h|h
  ·subst h;simp at ho
  ·exact h
 cases hv
 have h4:=q4 hn
 cases h4
 rcases hc with rfl|⟨j,c,hj,hc⟩
 ·simp at q3;omega
 ·have hjl:j < cs.length:=(List.getElem?_eq_some_iff.1 hj).1
  have h5:=q5 j hjl
  rw [Nat.zero_add] at h5
  exact ⟨j,_,h5,(q6 j c hj).noI64 hc⟩
open Classical in
theorem OCalls.ren {P:Program} {f:FuncId} {args args' : List PV} {given given' res res' : List (Nat×List PV)} {gm gm' rm rm' : List (Nat×PMap)} {r r' : PV} (h:OCalls P f args given gm r res rm) (ρ:Nat→Nat) (hs1:∀i∈given.map (·.1),i∈res.map (·.1)) (hs2:∀i∈gm.map (·.1),i∈rm.map (·.1))
  (hinj:∀i∈ResIds res rm,∀j∈ResIds res rm,ρ i=ρ j→i=j) (ha:RenL ρ (fun i=>i∈ResIds given gm) args args') (hg:RenB ρ (fun i=>i∈ResIds given gm) given given') (hm:RenMs ρ (fun i=>i∈ResIds given gm) gm gm')
  (hr:Ren ρ (fun i=>i∈ResIds res rm) r r') (hres:RenB ρ (fun i=>i∈ResIds res rm) res res') (hrm:RenMs ρ (fun i=>i∈ResIds res rm) rm rm'):OCalls P f args' given' gm' r' res' rm':=by
 refine ⟨h.1,fun Φ μ ω w vs himm hgl hrep hgb hgmm hlt hown=>?_⟩
 have hsub:∀i∈ResIds given gm,i∈ResIds res rm:=by
  intro i hi
  rcases List.mem_append.1 hi with hi|hi
  ·exact List.mem_append.2 (.inl (hs1 i hi))
  ·exact List.mem_append.2 (.inr (hs2 i hi))
 obtain ⟨g1,g2,g3⟩:=hg.mem
 obtain ⟨m1,m2,m3⟩:=hm.mem
 obtain ⟨b1,b2,b3⟩:=hres.mem
 obtain ⟨c1,c2,c3⟩:=hrm.mem
 have hids:ResIds given' gm' = (ResIds given gm).map ρ:=by simp only [ResIds,g3,m3,List.map_append]
 have hrids:ResIds res' rm' = (ResIds res rm).map ρ:=by simp only [ResIds,b3,c3,List.map_append]
 let μ1:Nat→Option Nat:=fun i=>if i∈ResIds given gm then μ (ρ i) else none
 let ω1:Nat→Option Who:=fun g=>if hh:∃q,((∃i∈ResIds given gm,OfId i q)∨∃t,q=Who.tmp t)∧ω g=some (renW ρ q) then some hh.choose else none
 have winj:∀q q',((∃i∈ResIds given gm,OfId i q)∨∃t,q=Who.tmp t)→((∃i∈ResIds given gm,OfId i q')∨∃t,q' = Who.tmp t)→renW ρ q=renW ρ q'→q=q':=by
  rintro q q' (⟨i,hi,hq⟩|⟨t,rfl⟩) (⟨j,hj,hq'⟩|⟨t',rfl⟩) e
  ·rcases hq with rfl|⟨x,rfl⟩<;>rcases hq' with rfl|⟨y,rfl⟩
   ·simp only [renW,Who.box.injEq] at e;rw [hinj i (hsub i hi) j (hsub j hj) e]
   ·simp [renW] at e
   ·simp [renW] at e
   ·simp only [renW,Who.cell.injEq] at e;rw [hinj i (hsub i hi) j (hsub j hj) e.1,e.2]
  ·rcases hq with rfl|⟨x,rfl⟩<;>simp [renW] at e
  ·rcases hq' with rfl|⟨y,rfl⟩<;>simp [renW] at e
  ·simpa [renW] using e
 have hω1:∀g q,((∃i∈ResIds given gm,OfId i q)∨∃t,q=Who.tmp t)→(ω1 g=some q↔ω g=some (renW ρ q)):=by
  intro g q hq
  constructor
  ·intro e
   have e' : (if hh:∃q,((∃i∈ResIds given gm,OfId i q)∨∃t,q=Who.tmp t)∧ω g=some (renW ρ q) then some hh.choose else none)=some q:=e
   split at e'
   ·rename_i hh
    have:=hh.choose_spec.2
    cases e'
    exact this
   ·cases e'
  ·intro e
   show (if hh:_ then _ else _)=_
   have hh:∃q,((∃i∈ResIds given gm,OfId i q)∨∃t,q=Who.tmp t)∧ω g=some (renW ρ q):=⟨q,hq,e⟩
   rw [dif_pos hh]
   have h2:=hh.choose_spec
   have h3:some (renW ρ q)=some (renW ρ hh.choose):=e.symm.trans h2.2
   simp only [Option.some.injEq] at h3
   rw [winj _ _ h2.1 hq h3.symm]
 have hω1' : ∀g q,ω1 g=some q→((∃i∈ResIds given gm,OfId i q)∨∃t,q=Who.tmp t)∧ω g=some (renW ρ q):=by
  intro g q e
  have e' : (if hh:∃q,((∃i∈ResIds given gm,OfId i q)∨∃t,q=Who.tmp t)∧ω g=some (renW ρ q) then some hh.choose else none)=some q:=e
  split at e'
  ·rename_i hh
   have:=hh.choose_spec
   cases e'
   exact this
  ·cases e'
 have hgiv0:∀g,Giv ω1 (ResIds given gm) g↔Giv ω (ResIds given' gm') g:=by
  intro g
  constructor
  ·rintro ⟨i,hi,q,hq,e⟩
   refine ⟨ρ i,by rw [hids];exact List.mem_map.2 ⟨i,hi,rfl⟩,renW ρ q,?_,(hω1' g q e).2⟩
   rcases hq with rfl|⟨j,rfl⟩
   ·exact .inl rfl
   ·exact .inr ⟨j,rfl⟩
  ·rintro ⟨i',hi0,q',hq,e⟩
   rw [hids] at hi0
   obtain ⟨i,hi,rfl⟩:=List.mem_map.1 hi0
   rcases hq with rfl|⟨j,rfl⟩
   ·exact ⟨i,hi, .box i, .inl rfl,(hω1 g _ (.inl ⟨i,hi, .inl rfl⟩)).2 e⟩
   ·exact ⟨i,hi, .cell i j, .inr ⟨j,rfl⟩,(hω1 g _ (.inl ⟨i,hi, .inr ⟨j,rfl⟩⟩)).2 e⟩
 have hag:∀(i n k:Nat) (cs:List PV) (E:TypeId),args[i]? = some (PV.sl n k cs (some E))↔args'[i]? = some (PV.sl n k cs (some E)):=by
  intro i n k cs E
  constructor
  ·intro e
   obtain ⟨q,hq⟩:=get_of_len ha.1.symm e
   have:=(ha.2 i _ q e hq).own (.inl rfl)
   rw [this];exact hq
  ·intro e
   obtain ⟨q,hq⟩:=get_of_len ha.1 e
   have:=(ha.2 i q _ hq e).own (.inr rfl)
   rw [←this];exact hq
 have hgiv:∀g,GivO ω1 (ResIds given gm) args g↔GivO ω (ResIds given' gm') args' g:=by
  intro g
  constructor
  ·rintro (h1|⟨i,p,h1,h2,h3⟩)
   ·exact .inl ((hgiv0 g).1 h1)
   ·obtain ⟨q,hq⟩:=get_of_len ha.1.symm h1
    have e:=(ha.2 i p q h1 hq).own (.inl h2)
    exact .inr ⟨i,q,hq,by rw [←e];exact h2,(hω1' g _ h3).2⟩
  ·rintro (h1|⟨i,p,h1,h2,h3⟩)
   ·exact .inl ((hgiv0 g).2 h1)
   ·obtain ⟨q,hq⟩:=get_of_len ha.1 h1
    have e:=(ha.2 i q p hq h1).own (.inr h2)
    exact .inr ⟨i,q,hq,by rw [e];exact h2,(hω1 g (.tmp i) (.inr ⟨i,rfl⟩)).2 h3⟩
 have hμ1:∀i,i∈ResIds given gm→∀g,μ (ρ i)=some g→μ1 i=some g:=fun i hi g e=>by show (if _ then _ else _)=_;rw [if_pos hi];exact e
 have hrep1:RepL Φ μ1 args vs:=⟨by rw [hrep.1,ha.1],fun j p u hp hu=>by
  obtain ⟨q,hq⟩:=get_of_len ha.1.symm hp
  exact (ha.2 j p q hp hq).bwd hμ1 (hrep.2 j q u hq hu)⟩
 refine (h.2 Φ μ1 ω1 w vs himm hgl hrep1 (fun x hx=>?_) (fun x hx=>?_) (fun g p e=>hlt g _ (hω1' g p e).2) (fun i n k cs E v h1 h2=>?_)).mono ?_
 ·obtain ⟨y,hy,e1,e2⟩:=g1 x hx
  have hi:x.1∈ResIds given gm:=List.mem_append.2 (.inl (List.mem_map.2 ⟨x,hx,rfl⟩))
  have:=hgb y hy
  rw [e1] at this
  exact this.bwd hi e2 hμ1 (fun q hq g e=>⟨(hω1 g q (.inl ⟨x.1,hi,hq⟩)).2 e,fun _=>trivial⟩)
 ·obtain ⟨y,hy,e1,e2⟩:=m1 x hx
  have hi:x.1∈ResIds given gm:=List.mem_append.2 (.inr (List.mem_map.2 ⟨x,hx,rfl⟩))
  have:=hgmm y hy
  rw [e1] at this
  exact this.bwd hi e2 hμ1 (fun q hq g e=>⟨(hω1 g q (.inl ⟨x.1,hi,hq⟩)).2 e,fun _=>trivial⟩)
 ·rcases hown i n k cs E v ((hag i n k cs E).1 h1) h2 with q|⟨g,cap,cur,q1,q2,q3,q4,q5,q6,q7,q8⟩|q
  ·exact .inl q
  ·exact .inr (.inl ⟨g,cap,cur,q1,trivial,q3,q4,q5,q6,(hω1 g (.tmp i) (.inr ⟨i,rfl⟩)).2 q7,q8⟩)
  ·exact .inr (.inr q)
 rintro e w' ⟨v,Φ',μ',ω',rfl,k1,k2,k3,k4,k5,k6,k7,k8,k9,k10,k11⟩
 let μ2:Nat→Option Nat:=fun i' => if hh:∃i∈ResIds res rm,ρ i=i' then μ' hh.choose else none
 have hμ2:∀i,i∈ResIds res rm→μ2 (ρ i)=μ' i:=by
  intro i hi
  show (if hh:_ then _ else _)=_
  have hh:∃j∈ResIds res rm,ρ j=ρ i:=⟨i,hi,rfl⟩
  rw [dif_pos hh]
  have:=hh.choose_spec
  rw [hinj _ this.1 _ hi this.2]
 have hμ2' : ∀i,i∈ResIds res rm→∀g,μ' i=some g→μ2 (ρ i)=some g:=fun i hi g e=>by rw [hμ2 i hi];exact e
 let ω2:Nat→Option Who:=fun g=>(ω' g).map (renW ρ)
 have hnew:∀g,NewO ω1 w (ResIds given gm) args g↔NewO ω w (ResIds given' gm') args' g:=fun g=>or_congr Iff.rfl (hgiv g)
 refine ⟨v,Φ',μ2,ω2,rfl,hr.fwd hμ2' k1,k2,k3,fun b o hb hng=>k4 b o hb (fun hh=>hng ((hgiv b).1 hh)),k5.mono fun k hk=>⟨hk.1,fun hh=>hk.2 ((hgiv k).1 hh)⟩,fun i' hi' => ?_,fun i' g e=>?_,fun y hy=>?_,fun y hy=>?_,fun g p e=>?_,fun n k cs E e=>?_⟩
 ·rw [hids] at hi'
  obtain ⟨i,hi,rfl⟩:=List.mem_map.1 hi'
  rw [hμ2 i (hsub i hi),k6 i hi]
  show (if _ then _ else _)=_
  rw [if_pos hi]
 ·have e' : (if hh:∃i∈ResIds res rm,ρ i=i' then μ' hh.choose else none)=some g:=e
  split at e'
  ·rename_i hh
   obtain ⟨i,hi,rfl⟩:=hh
   rw [hrids];exact List.mem_map.2 ⟨i,hi,rfl⟩
  ·cases e'
 ·obtain ⟨x,hx,e1,e2⟩:=b2 y hy
  have hi:x.1∈ResIds res rm:=List.mem_append.2 (.inl (List.mem_map.2 ⟨x,hx,rfl⟩))
  rw [e1]
  exact (k8 x hx).fwd hi e2 hμ2' (fun q hq g e=>⟨by show (ω' g).map _=_;rw [e];rfl,fun hb=>(hnew g).1 hb⟩)
 ·obtain ⟨x,hx,e1,e2⟩:=c2 y hy
  have hi:x.1∈ResIds res rm:=List.mem_append.2 (.inr (List.mem_map.2 ⟨x,hx,rfl⟩))
  rw [e1]
  exact (k9 x hx).fwd hi e2 hμ2' (fun q hq g e=>⟨by show (ω' g).map _=_;rw [e];rfl,fun hb=>(hnew g).1 hb⟩)
 ·have e' : (ω' g).map (renW ρ)=some p:=e
  obtain ⟨q,hq,-⟩:=Option.map_eq_some_iff.1 e'
  exact ⟨(k10 g q hq).1,(hnew g).1 (k10 g q hq).2⟩
 ·have hre:r=r':=hr.own (.inr (by rw [e];rfl))
  rcases k11 n k cs E (by rw [hre,e]) with q|⟨g',cap,cur',q1,q2,q3,q4,q5,q6,q7,q8⟩|q
  ·exact .inl q
  ·exact .inr (.inl ⟨g',cap,cur',q1,(hnew g').1 q2,q3,q4,q5,q6,by show (ω' g').map _=_;rw [q7];rfl,q8⟩)
  ·exact .inr (.inr q)
theorem OCalls.at {P:Program} {f:FuncId} {args args' : List PV} {given given' res res' : List (Nat×List PV)} {gm gm' rm rm' : List (Nat×PMap)} {r r' : PV} (h:OCalls P f args given gm r res rm) (L:List (Nat×Nat)) (hd:(L.map (·.2)).Nodup) (hs:∀i∈ResIds res rm,i∈L.map (·.1)) (hs1:∀i∈given.map (·.1),i∈res.map (·.1)) (hs2:∀i∈gm.map (·.1),i∈rm.map (·.1))
  (ha:RenL (renN L) (fun i=>i∈ResIds given gm) args args') (hg:RenB (renN L) (fun i=>i∈ResIds given gm) given given') (hm:RenMs (renN L) (fun i=>i∈ResIds given gm) gm gm')
  (hr:Ren (renN L) (fun i=>i∈ResIds res rm) r r') (hres:RenB (renN L) (fun i=>i∈ResIds res rm) res res') (hrm:RenMs (renN L) (fun i=>i∈ResIds res rm) rm rm'):OCalls P f args' given' gm' r' res' rm':=
 h.ren (renN L) hs1 hs2 (fun i hi j hj e=>renN_inj hd i (hs i hi) j (hs j hj) e) ha hg hm hr hres hrm
end
section
open Go.RowKit
variable {Φ0:Ent} {W:World} {M:Nat} {Φ:Imm} {μ:Nat→Option Nat} {ω:Nat→Option Who} {σ:PS} {a:Act} {w:World} {P:Program} {T:Tab}
theorem RelG.rebaseA (h:RelG Φ0 W M Φ μ ω σ a w) {Φ1:Ent} {W1:World} {a' : Act} (ht:a'.tmps=a.tmps) (hb:Kept (Old Φ1 W1) W1 w) (hd:a'.defers=Φ1.marks.map collD∧RndOK Φ1 W1) (ho:∀b o,Old Φ1 W1 b→Φ b o=Φ1.imm b o)
  (hg:∀id g,Φ1.mu id=some g→1000000≤id) (hk:∀id g,Φ1.mu id=some g→(σ.b id≠none∨σ.m id≠none)→μ id=some g) (he:∀b o u,Φ1.imm b o=some u→Φ b o=some u∧b < W1.heap.size) (hm:∀g p,ω g=some p→Mine Φ1 W1 g):RelG Φ1 W1 M Φ μ ω σ a' w:=
 ⟨hb,hd,by rw [ht];exact h.size,h.imm,ho,by rw [ht];exact h.tmps,fun t n k cs E e=>by rw [ht];exact (h.own t n k cs E e).inB (fun g e=>hm g _ e),fun id bs e=>(h.box id bs e).inB (fun g q _ e=>hm g q e),h.gone,h.lt,hg,hk,he,fun id X e=>(h.map id X e).inB (fun g q _ e=>hm g q e),hm⟩
def OwnsX (c:PV):Prop:=∀n k cs E,c = .sl n k cs (some E)→cs = []∨∃(j:Nat) (c:PV),cs[j]? = some c∧noI64 c=true
theorem ownsX_no {c:PV} (h:c.ownB=false):OwnsX c:=fun n k cs E e=>by rw [e] at h;simp [PV.ownB] at h
theorem OwnAt.mixJ {B B' : Nat→Prop} {Φ:Imm} {μ:Nat→Option Nat} {ω ω' : Nat→Option Who} {w:World} {p:Who} {n k:Nat} {cs:List PV} {E:TypeId} {v:Value} (h:OwnAt B Φ ω w p n k E v) (hr:Rep Φ μ (.sl n k cs (some E)) v) (ho:OwnsX (.sl n k cs (some E))) (hω:∀g,ω g=some p→Mix Φ g→ω' g=some p∧B' g):OwnAt B' Φ ω' w p n k E v:=by
 rcases h with h|⟨g,cap,cur,rfl,h2,h3,h4,h5,h6,h7,h8⟩|h
 ·exact .inl h
 ·obtain ⟨k1,k2⟩:=hω g h7 (own_mix hr h8.2 (ho n k cs E rfl))
  exact .inr (.inl ⟨g,cap,cur,rfl,k2,h3,h4,h5,h6,k1,h8⟩)
 ·exact .inr (.inr h)
structure OwnsS (σ:PS):Prop where
 t:∀t,(σ.t t).ownB=false
 b:∀id bs,σ.b id=some bs→∀c∈bs,OwnsX c
 m:∀id es clock,σ.m id=some (.map es clock)→∀e∈es,OwnsX e.2.2
theorem ownsS_bot:OwnsS bot:=⟨fun _=>rfl,fun _ _ e=>(by cases e),fun _ _ _ e=>(by cases e)⟩
theorem OwnsS.put {σ:PS} (h:OwnsS σ) {d:Nat} {p:PV} (hp:p.ownB=false):OwnsS (σ.put d p):=by
 refine ⟨fun t=>?_,h.b,h.m⟩
 simp only [PS.put,upd_if]
 split
 ·exact hp
 ·exact h.t t
theorem OwnsS.setb {σ:PS} (h:OwnsS σ) {i:Nat} {bs:List PV} (hp:∀c∈bs,OwnsX c):OwnsS (σ.setb i bs):=by
 refine ⟨h.t,fun id cs e=>?_,h.m⟩
 simp only [PS.setb,upd_if] at e
 split at e
 ·cases e;exact hp
 ·exact h.b id cs e
theorem OwnsS.setm {σ:PS} (h:OwnsS σ) {i:Nat} {X:PMap} (hp:∀es clock,X = .map es clock→∀e∈es,OwnsX e.2.2):OwnsS (σ.setm i X):=by
 refine ⟨h.t,h.b,fun id es clock e=>?_⟩
 simp only [PS.setm,upd_if] at e
 split at e
 ·cases e;exact hp es clock rfl
 ·exact h.m id es clock e
theorem ownsX_nil:∀c∈([]:List PV),OwnsX c:=fun c h=>by cases h
theorem ownsX_cons {c:PV} {cs:List PV} (h:OwnsX c) (hs:∀c∈cs,OwnsX c):∀d∈c :: cs,OwnsX d:=by
 intro d hd
 rcases List.mem_cons.1 hd with rfl|hd
 ·exact h
 ·exact hs d hd
open Classical in
theorem RelG.mixed (h:RelG Φ0 W M Φ μ ω σ a w) (ho:OwnsS σ):∃ωm,RelG Φ0 W M Φ μ ωm σ a w∧∀g p,ωm g=some p→ω g=some p∧Mix Φ g:=by
 let ωm:Nat→Option Who:=fun g=>if Mix Φ g then ω g else none
 have h1:∀g p,ωm g=some p→ω g=some p∧Mix Φ g:=by
  intro g p e
  have e' : (if Mix Φ g then ω g else none)=some p:=e
  split at e'
  ·rename_i hm;exact ⟨e',hm⟩
  ·cases e'
 have h2:∀g p,ω g=some p→Mix Φ g→ωm g=some p:=fun g p e hm=>by show (if _ then _ else _)=_;rw [if_pos hm];exact e
 have h3:∀g,(∀j,Φ g j=none)→Mix Φ g:=fun g hj o u e=>by rw [hj] at e;cases e
 refine ⟨ωm,⟨h.below,h.defers,h.size,h.imm,h.old,h.tmps,fun t n k cs E e=>?_,fun id bs e=>?_,h.gone,fun g p e=>h.lt g p (h1 g p e).1,h.gmu,h.kmu,h.ext,fun id X e=>?_,fun g p e=>h.mine g p (h1 g p e).1⟩,h1⟩
 ·have:=ho.t t
  rw [e] at this
  simp [PV.ownB] at this
 ·obtain ⟨g,cur,Ty,k1,k2,k3,k4,k5,k6,k7⟩:=h.box id bs e
  refine ⟨g,cur,Ty,k1,k2,k3,h2 g _ k4 (h3 g k5),k5,k6,fun j c hc=>?_⟩
  obtain ⟨u,r1,r2,r3,r4⟩:=k7 j c hc
  refine ⟨u,r1,r2,r3,fun n k cs E e' => (r4 n k cs E e').mixJ (cs:=cs) (μ:=μ) (by rw [←e'];exact r3) (by rw [←e'];exact ho.b id bs e c (mem_of_get hc)) (fun g' e2 hno=>⟨h2 g' _ e2 hno,h.mine g' _ e2⟩)⟩
 ·obtain ⟨g,k1,k2,k3,k4,k5⟩:=h.map id X e
  refine ⟨g,k1,k2,h2 g _ k3 (h3 g k4),k4,?_⟩
  cases X with
  |map es clock=>
   obtain ⟨e0,ents,e1,e2,e3⟩:=k5
   refine ⟨e0,ents,e1,e2,fun j s k c hj=>?_⟩
   obtain ⟨en,f1,f2,f3,f4,f5⟩:=e3 j s k c hj
   refine ⟨en,f1,f2,f3,f4,fun n kk cs E ec=>(f5 n kk cs E ec).mixJ (cs:=cs) (μ:=μ) (by rw [←ec];exact f4) (by rw [←ec];exact ho.m id es clock e _ (mem_of_get hj)) (fun g' e2 hno=>⟨h2 g' _ e2 hno,h.mine g' _ e2⟩)⟩
  |iter=>exact k5
theorem RelG.subS {σ' : PS} (h:RelG Φ0 W M Φ μ ω σ a w) (hs:Sub M σ σ'):∃Φ' μ' ω',RelG Φ0 W M Φ' μ' ω' σ' a w∧Since Φ ω w Φ' ω' w:=by
 obtain ⟨Φ',μ',ω',k⟩:=hs _ _ _ _ ⟨Φ,μ,ω,h.fresh0 h.gmu h.kmu⟩
 have hsi:=h.since (Later.refl _ _) k
 have hold0:∀b,Old Φ0 W b→b < w.heap.size∧∀p,ω b≠some p:=fun b hb=>⟨Nat.lt_of_lt_of_le hb.1 h.below.size,h.noOld hb⟩
 refine ⟨Φ',μ',ω',k.rebase h.below h.defers (fun b o hb=>?_) h.gmu k.kmu (fun b o u e=>⟨?_,(h.ext b o u e).2⟩) (fun g p e=>?_),hsi⟩
 ·rw [hsi.imm b o (hold0 b hb).1 (hold0 b hb).2];exact h.old b o hb
 ·by_cases hω:∃p,ω b=some p
  ·exact (k.ext b o u ((freshI_own hω).trans e)).1
  ·have:=h.ext b o u e
   rw [hsi.imm b o (Nat.lt_of_lt_of_le this.2 h.below.size) (fun p e=>hω ⟨p,e⟩)]
   exact this.1
 ·rcases hsi.own g p e with ⟨q,hq⟩|hq
  ·exact h.mine g q hq
  ·exact .inl (Nat.le_trans h.below.size hq)
theorem putObj_cell {w:World} {l:Nat} {ob:Obj} (hl:∀o u,w.cell? ⟨l,o,none⟩≠some u) {b o:Nat} {u:Value} (h:w.cell? ⟨b,o,none⟩=some u):(w.putObj l ob).cell? ⟨b,o,none⟩=some u:=by
 have hb:b≠l:=by rintro rfl;exact hl o u h
 simp only [World.cell?] at h ⊢
 rw [World.putObj_heap_other hb];exact h
theorem loop_nocell {w:World} {l:Nat} {r:Loop} (h:w.heap[l]? = some (.loop r)):∀o u,w.cell? ⟨l,o,none⟩≠some u:=by
 intro o u e
 simp only [World.cell?,h] at e
 cases e
theorem RelG.putLoop (h:RelG Φ0 W M Φ μ ω σ a w) {l:Nat} {r:Loop} (hl:w.heap[l]? = some (.loop r)) (hω:∀p,ω l≠some p) (hold:¬Old Φ0 W l) (r' : Obj):RelG Φ0 W M Φ μ ω σ a (w.putObj l r'):=by
 refine h.grow (h.below.trans ⟨rfl,rfl,rfl,by simp,fun k hk=>World.putObj_heap_other (fun e=>hold (e ▸ hk))⟩) (fun b o u e=>putObj_cell (loop_nocell hl) (h.imm b o u e)) (fun _ _ _=>rfl) (fun _ _ _ e=>e) (fun g p e=>⟨World.putObj_heap_other (fun e' => hω p (e' ▸ e)),fun _=>rfl⟩) (by simp)
theorem RelG.putRound (h:RelG Φ0 W M Φ μ ω σ a w) {l:Nat} {r r' : Loop} (hr:Φ0.round=some l) (hl:w.heap[l]? = some (.loop r)):RelG (h.freshE Φ0.mu) (w.putObj l (.loop r')) M Φ μ ω σ a (w.putObj l (.loop r')):=by
 obtain ⟨q1,q2,-⟩:=h.rnd hr
 have h1:=h.fresh0 h.gmu h.kmu
 let Φg:Ent:=⟨freshI Φ0.imm Φ ω,fun g=>(∃p,ω g=some p)∨g=l,Φ0.mu,h.freshGlob,fun g hg=>by
  rcases hg with hg|rfl
  ·exact h.freshMix hg
  ·intro o u e
   have:=h.imm _ _ _ (h.freshSub e)
   exact absurd this (loop_nocell hl o u),Φ0.marks,none⟩
 have h2:RelG Φg w M Φ μ ω σ a w:=h1.rebase (Kept.refl _ _) ⟨h1.defers.1,fun _ e=>by cases e⟩ (fun b o hb=>(freshI_eq fun p e=>hb.2 (.inl ⟨p,e⟩)).symm) h.gmu h.kmu (fun b o u e=>⟨h.freshSub e,RelG.fresh h (h.freshSub e)⟩) (fun g p e=>.inr (.inl ⟨p,e⟩))
 have h3:RelG Φg w M Φ μ ω σ a (w.putObj l (.loop r')):=h2.putLoop hl q2 (fun ho=>ho.2 (.inr rfl)) _
 refine h3.rebase (Kept.refl _ _) ⟨h1.defers.1,fun l' e=>?_⟩ (fun b o hb=>(freshI_eq fun p e=>hb.2 ⟨p,e⟩).symm) h.gmu h.kmu (fun b o u e=>⟨h.freshSub e,by simpa using RelG.fresh h (h.freshSub e)⟩) (fun g p e=>.inr ⟨p,e⟩)
 have e' : Φ0.round=some l':=e
 rw [hr] at e'
 cases e'
 exact ⟨⟨by simpa using q1,fun ⟨p,hp⟩=>q2 p hp⟩,r',World.putObj_heap_same q1⟩
def setps (f:Nat→PV):List Nat→List PV→Nat→PV
 |p :: ps,x :: xs=>setps (upd f p x) ps xs
 |_,_=>f
theorem RelG.puts:∀(ps:List Nat) (xs:List PV) (vs:List Value) (σ:PS) (a:Act),RelG Φ0 W M Φ μ ω σ a w→(∀p∈ps,p < M)→ps.length=xs.length→RepL Φ μ xs vs→(∀x∈xs,x.ownB=false) →
  RelG Φ0 W M Φ μ ω { σ with t:=setps σ.t ps xs } { a with tmps:=(ps.zip vs).foldl (fun t (p,v)=>t.setIfInBounds p v) a.tmps } w
 | [],xs,vs,σ,a,h,_,_,_,_=>by simpa [setps] using h
 |p :: ps,[],vs,σ,a,h,_,hl,_,_=>by cases hl
 |p :: ps,x :: xs,[],σ,a,h,_,_,hr,_=>by have:=hr.1;cases this
 |p :: ps,x :: xs,v :: vs,σ,a,h,hp,hl,hr,ho=>by
  have h1:=h.put (hp p List.mem_cons_self) (hr.2 0 x v rfl rfl) (ho x List.mem_cons_self)
  have:=RelG.puts ps xs vs _ _ h1 (fun q hq=>hp q (List.mem_cons_of_mem _ hq)) (by simpa using hl) ⟨by have:=hr.1;simpa using this,fun j y u h1 h2=>hr.2 (j+1) y u h1 h2⟩ (fun y hy=>ho y (List.mem_cons_of_mem _ hy))
  exact this
end
section
open Go.RowKit
def CJ (Φr:Ent) (W1:World) (M:Nat) (a0:Act) (l:Nat) (σ:PS) (I:Nat→Prop) (K:Imm) (w:World):Prop:=
 ∃Φ μ ω,RelG Φr W1 M Φ μ ω σ a0 w∧(∀g,I g→∀p,ω g≠some p)∧(∀p,ω l≠some p)∧(∀b o u,I b→Φ b o=some u→K b o=some u)∧(∀g,I g→¬Old Φr W1 g∧g≠l)
end
section
open Go.RowKit
variable {Φr:Ent} {W1:World} {M:Nat} {a0:Act} {l:Nat} {σ:PS} {I I' : Nat→Prop} {K K' : Imm} {w w' : World} {P:Program}
theorem CJ.step (h:CJ Φr W1 M a0 l σ I K w) (hlw:l < w.heap.size) (hk:Kept (fun b=>b < w.heap.size∧¬I b) w w') (hI:∀g,I' g→I g∨w.heap.size≤g) (hK:∀b o u,K b o=some u→I b→K' b o=some u) (hc:∀b o u,K' b o=some u→w'.cell? ⟨b,o,none⟩=some u):CJ Φr W1 M a0 l σ I' K' w':=by
 obtain ⟨Φ,μ,ω,hg,h1,h2,h3,h4⟩:=h
 have hg' : RelG Φr W1 M Φ μ ω σ a0 w':=by
  refine hg.grow (hg.below.trans (hk.mono fun b hb=>⟨Nat.lt_of_lt_of_le hb.1 hg.below.size,fun hi=>(h4 b hi).1 hb⟩)) (fun b o u e=>?_) (fun _ _ _=>rfl) (fun _ _ _ e=>e) (fun g p e=>⟨hk.block g ⟨hg.lt g p e,fun hi=>h1 g hi p e⟩,fun _=>rfl⟩) hk.size
  ·by_cases hi:I b
   ·exact hc b o u (hK b o u (h3 b o u hi e) hi)
   ·have:=hg.imm b o u e
    simp only [World.cell?] at this ⊢
    rw [hk.block b ⟨RelG.fresh hg e,hi⟩]
    exact this
 refine ⟨Φ,μ,ω,hg',fun g hi p e=>?_,h2,fun b o u hi e=>?_,fun g hi=>?_⟩
 ·rcases hI g hi with h' | h'
  ·exact h1 g h' p e
  ·have:=hg.lt g p e;omega
 ·rcases hI b hi with h' | h'
  ·exact hK b o u (h3 b o u h' e) h'
  ·have:=RelG.fresh hg e;omega
 ·rcases hI g hi with h' | h'
  ·exact h4 g h'
  ·exact ⟨fun ho=>by have:=ho.1;have:=hg.below.size;omega,by omega⟩
theorem CJ.putLoop {r:Loop} (h:CJ Φr W1 M a0 l σ I K w) (hl:w.heap[l]? = some (.loop r)) (hold:¬Old Φr W1 l) (r' : Obj):CJ Φr W1 M a0 l σ I K (w.putObj l r'):=by
 obtain ⟨Φ,μ,ω,hg,h1,h2,h3,h4⟩:=h
 exact ⟨Φ,μ,ω,hg.putLoop hl h2 hold r',h1,h2,h3,h4⟩
theorem CJ.sub {σ' : PS} (h:CJ Φr W1 M a0 l σ I K w) (hs:Sub M σ σ') (hl:l < w.heap.size) (hI:∀g,I g→g < w.heap.size):CJ Φr W1 M a0 l σ' I K w:=by
 obtain ⟨Φ,μ,ω,hg,h1,h2,h3,h4⟩:=h
 obtain ⟨Φ',μ',ω',k,hsi⟩:=hg.subS hs
 have hno:∀g,g < w.heap.size→(∀p,ω g≠some p)→∀p,ω' g≠some p:=fun g hlt hn p e=>by
  rcases hsi.own g p e with ⟨q,hq⟩|hq
  ·exact hn q hq
  ·omega
 refine ⟨Φ',μ',ω',k,fun g hi=>hno g (hI g hi) (h1 g hi),hno l hl h2,fun b o u hi e=>?_,h4⟩
 rw [hsi.imm b o (hI b hi) (h1 b hi)] at e
 exact h3 b o u hi e
def roundNorm (M:Nat) (T:Nat→PV) (F' : PS) (Ip:Prop) (σ' : PS):Prop:=Ip∧Sub M { σ' with t:=T } F'∧∀t,LowI (Kn σ') (T t)
def roundOut (M:Nat) (o:Nat) (L:List Nat) (T:Nat→PV) (Q:PS→Prop) (σ' : PS):Prop:=
 (∀t,LowI (Kn σ') (T t))∧∃G σe,Sub M { σ' with t:=T } G∧(∀i,Kn G i→i∈L)∧SubR (fun i=>i+o) (Kn σe) G σe∧Q σe
def RoundP (M:Nat) (o:Nat) (L:List Nat) (T:Nat→PV) (F' : PS) (Ip:Prop) (Q:Exit→PS→Prop):Exit→PS→Prop
 | .normal,σ' => roundNorm M T F' Ip σ'
 | .ret,σ' => roundOut M o L T (Q .ret) σ'
 | .exit i,σ' => roundOut M o L T (Q (.exit i)) σ'
 | .goto i,σ' => roundOut M o L T (Q (.goto i)) σ'
 |_,_=>False
def NormP (K:PS→Prop):Exit→PS→Prop
 | .normal,σ=>K σ
 |_,_=>False
theorem normP {K:PS→Prop} {σ:PS} (h:K σ):NormP K .normal σ:=h
theorem round_sound {r0:Loop} {ps:List Nat} {x:List PV} {vs:List Value} {F F' : PS} {Q:Exit→PS→Prop} {Ip:Prop} {o:Nat} {L:List Nat} {Φe:Imm} {Lb:Nat→Prop} (hLI:∀g,Lb g→I g) (hLo:∀g,Lb g→¬Old Φr W1 g) (hLl:¬Lb l)
  (hgivm:∀g,g < W1.heap.size→Mine Φr W1 g→g≠l→Mix Φe g) (himmr:Φr.imm=Φe) (hkn:∀i g,Φr.mu i=some g→Kn F i) (hmu:∀i,Kn F i→1000000≤i) (hlW:l < W1.heap.size) (hlold:¬Old Φr W1 l) (hmix:Mix Φe l)
  (hF:OwnsS F) (hps:∀p∈ps,p < M) (hpx:ps.length=x.length) (hx:∀p∈x,Low p∧p.ownB=false) {assign body:Code} (hassign:PW P M assign (NormP fun σ1=>PW P M body (RoundP M o L F.t F' Ip Q) σ1) { F with t:=setps F.t ps x })
  (hJ:CJ Φr W1 M a0 l F I K w) (hl:w.heap[l]? = some (.loop r0)) (hrs:r0.state = .ready) (hI:∀g,I g→(W1.heap.size≤g∨Lb g)∧g < w.heap.size) (hK:∀b o u,K b o=some u→w.cell? ⟨b,o,none⟩=some u) (hK1:∀b o,b < W1.heap.size→¬Lb b→K b o=Φe b o) (hK2:∀b o u,W1.heap.size≤b→K b o=some u→I b) (hrep:RepL K mu0 x vs) :
  assign.wpIn (FW (some l)) 0 P (Exit.then (fun a₁ w₁=>∃w₂,(Instr.beginRound l).run P w₁ = .ok () w₂∧body.wpIn (FW (some l)) 0 P (fun e a' w3=>(w3.heap[l]? = some (.loop { r0 with state:=.busy })∧Kept (fun g=>(I g∨(g < W1.heap.size∧¬Mix Φe g))) w w3∧(∀b o u,K b o=some u→w3.cell? ⟨b,o,none⟩=some u)) ∧
   (match e with
    | .normal=>Ip∧CJ Φr W1 M a0 l F' I K w3
    | .ret=>∃G σe,CJ Φr W1 M a0 l G I K w3∧(∀i,Kn G i→i∈L)∧SubR (fun i=>i+o) (Kn σe) G σe∧Q .ret σe
    | .exit i=>∃G σe,CJ Φr W1 M a0 l G I K w3∧(∀i,Kn G i→i∈L)∧SubR (fun i=>i+o) (Kn σe) G σe∧Q (.exit i) σe
    | .goto i=>∃G σe,CJ Φr W1 M a0 l G I K w3∧(∀i,Kn G i→i∈L)∧SubR (fun i=>i+o) (Kn σe) G σe∧Q (.goto i) σe
    |_=>False)) a₁ w₂) (fun _ _ _=>False))
   { tmps:=(ps.zip vs).foldl (fun t (p,v)=>t.setIfInBounds p v) a0.tmps,defers := [] } w:=by
 obtain ⟨Φp,μp,ωp,hgp,hc1,hc2,hc3,hc4⟩:=hJ
 -- what the iterator knows beside what is known
 let Φu:Imm:=fun b o=>(Φp b o).orElse fun _=>K b o
 have hue:∀b o u,Φu b o=some u→Φp b o=some u∨(Φp b o=none∧K b o=some u):=by
  intro b o u e
  have e' : ((Φp b o).orElse fun _=>K b o)=some u:=e
  cases hh:Φp b o with
  |some v=>rw [hh] at e'; left;simpa using e'
  |none=>rw [hh] at e'; right;exact ⟨rfl,by simpa using e'⟩
 have hup:∀b o u,Φp b o=some u→Φu b o=some u:=by
  intro b o u e
  show ((Φp b o).orElse fun _=>K b o)=some u
  rw [e];rfl
 have huK:∀b o u,K b o=some u→Φu b o=some u:=by
  intro b o u e
  show ((Φp b o).orElse fun _=>K b o)=some u
  cases hh:Φp b o with
  |none=>simpa using e
  |some v=>
   have e1:=hgp.imm b o v hh
   rw [hK b o u e] at e1
   simpa using e1.symm
 have hun:∀b o,¬I b→Φu b o=Φp b o:=by
  intro b o hi
  show ((Φp b o).orElse fun _=>K b o)=Φp b o
  cases hh:Φp b o with
  |some v=>rfl
  |none=>
   show K b o=none
   cases hk:K b o with
   |none=>rfl
   |some u=>
    rcases Nat.lt_or_ge b W1.heap.size with h' | h'
    ·rw [hK1 b o h' (fun hl=>hi (hLI b hl)),←himmr] at hk
     rw [(hgp.ext b o u hk).1] at hh;cases hh
    ·exact absurd (hK2 b o u h' hk) hi
 have hnI:∀b,Old Φr W1 b→¬I b:=fun b hb hi=>by
  rcases (hI b hi).1 with h' | h'
  ·have:=hb.1;omega
  ·exact hLo b h' hb
 have hIl:∀g,I g→g≠l:=fun g hi e=>by
  rcases (hI g hi).1 with h' | h'
  ·omega
  ·exact hLl (e ▸ h')
 have hg1:RelG Φr W1 M Φu μp ωp F a0 w:=hgp.grow hgp.below (fun b o u e=>(hue b o u e).elim (hgp.imm b o u) (fun h=>hK b o u h.2)) (fun b o hb=>hun b o (hnI b hb)) hup (fun g p e=>⟨rfl,fun j=>hun g j (fun hi=>hc1 g hi p e)⟩) (Nat.le_refl _)
 obtain ⟨ωm,hg2,hωm⟩:=hg1.mixed hF
 have hml:∀p,ωm l≠some p:=fun p e=>hc2 p (hωm l p e).1
 have hlw:l < w.heap.size:=Nat.lt_of_lt_of_le hlW hgp.below.size
 have hkn' : ∀i g,μp i=some g→Kn F i:=by
  intro i g e
  by_cases hk:Kn F i
  ·exact hk
  ·have:=PS.freeB_iff.1 (by simpa [Kn] using hk:F.freeB i=true)
   rw [hgp.gone i this.1 this.2] at e;cases e
 let Φk:Ent:=⟨Φu,fun g=>∃p,ωm g=some p,μp,hg2.glob,fun g ⟨p,e⟩=>(hωm g p e).2,[],some l⟩
 have hg3:=hg2.rebaseA (a':={ tmps:=a0.tmps,defers := [] }) (Φ1:=Φk) (W1:=w) rfl (Kept.refl _ _) ⟨rfl,fun l' e=>by cases e;exact ⟨⟨hlw,fun ⟨p,e⟩=>hml p e⟩,r0,hl⟩⟩ (fun b o hb=>rfl) (fun i g e=>hmu i (hkn' i g e)) (fun i g e _=>e) (fun b o u e=>⟨e,RelG.fresh hg2 e⟩) (fun g p e=>.inr ⟨p,e⟩)
 have hrep' : RepL Φu μp x vs:=⟨hrep.1,fun j p u h1 h2=>((hrep.2 j p u h1 h2).low (hx p (mem_of_get h1)).1).mono huK (fun _ _ e=>e)⟩
 have hg4:=RelG.puts ps x vs F _ hg3 hps hpx hrep' (fun p hp=>(hx p hp).2)
 refine wpIn_mono (hassign Φk w _ w ⟨_,_,_,hg4⟩) ?_
 rintro e a1 w1 ⟨σ1,Φ2,W2,hq,hl2,Φ',μ',ω',k1⟩
 cases e with
 |normal=>?_
 |_=>exact hq.elim
 have hs1:Kept (fun b=>b < w.heap.size∧∀p,ωm b≠some p) w w1:=(hl2.kept.trans (k1.below.mono hl2.old)).mono fun b hb=>⟨hb.1,fun ⟨p,e⟩=>hb.2 p e⟩
 have hl1:w1.heap[l]? = some (.loop r0):=(hs1.block l ⟨hlw,hml⟩).trans hl
 have hr2:Φ2.round=some l:=hl2.round
 refine ⟨_,run_beginRound hl1 hrs,?_⟩
 have k2:=k1.putRound (r':={ r0 with state:=.busy }) hr2 hl1
 have hω'l:∀p,ω' l≠some p:=(k1.rnd hr2).2.1
 have hbw:=hq _ _ _ _ ⟨_,_,_,k2⟩
 rw [show (k1.freshE Φ2.mu).round=some l from hr2] at hbw
 refine wpIn_mono hbw ?_
 rintro e a3 w3 ⟨σ',Φ3,W3,hq',hl3,Φ'',μ'',ω'',k3⟩
 have hsz1:w.heap.size≤w1.heap.size:=hs1.size
 have hω' : ∀g p,ω' g=some p→(∃q,ωm g=some q)∨w.heap.size≤g:=fun g p e=>(hl2.mine g (k1.mine g p e)).symm
 have hω'' : ∀g p,ω'' g=some p→(∃q,ωm g=some q)∨w.heap.size≤g:=by
  intro g p e
  rcases hl3.mine g (k3.mine g p e) with h' | ⟨q,h'⟩
  ·right
   have:w1.heap.size≤g:=by simpa using h'
   omega
  ·exact hω' g q h'
 have hs3:Kept (fun b=>b < w1.heap.size∧∀p,ω' b≠some p) (w1.putObj l (.loop { r0 with state:=.busy })) w3:=(hl3.kept.trans (k3.below.mono hl3.old)).mono fun b hb=>⟨by simpa using hb.1,fun ⟨p,e⟩=>hb.2 p e⟩
 have hb' : ∀b,b < w.heap.size→(∀p,ωm b≠some p)→∀p,ω' b≠some p:=fun b h1 h2 p e=>by
  rcases hω' b p e with ⟨q,hq⟩|hq
  ·exact h2 q hq
  ·omega
 have hs:Kept (fun b=>b < w.heap.size∧(∀p,ωm b≠some p)∧b≠l) w w3:=by
  refine ⟨hs3.os.trans hs1.os,hs3.tape.trans hs1.tape,hs3.output.trans hs1.output,Nat.le_trans hsz1 (by simpa using hs3.size),fun b hb=>?_⟩
  rw [hs3.block b ⟨Nat.lt_of_lt_of_le hb.1 hsz1,hb' b hb.1 hb.2.1⟩,World.putObj_heap_other hb.2.2]
  exact hs1.block b ⟨hb.1,hb.2.1⟩
 have hl3' : w3.heap[l]? = some (.loop { r0 with state:=.busy }):=by
  rw [hs3.block l ⟨Nat.lt_of_lt_of_le hlw hsz1,hω'l⟩]
  exact World.putObj_heap_same (Nat.lt_of_lt_of_le hlw hsz1)
 have hmu3:Φ3.mu=μp:=hl3.mu.trans hl2.mu
 have hsub:∀b o u,Φu b o=some u→Φ'' b o=some u:=by
  intro b o u e
  have e2:Φ2.imm b o=some u:=by rw [hl2.imm];exact e
  refine (k3.ext b o u ?_).1
  rw [hl3.imm]
  show freshI Φ2.imm Φ' ω' b o=some u
  by_cases hh:∃p,ω' b=some p
  ·rw [freshI_own hh];exact e2
  ·rw [freshI_eq fun p e=>hh ⟨p,e⟩];exact (k1.ext b o u e2).1
 have hold:∀b o,b < w.heap.size→(∀p,ωm b≠some p)→Φ'' b o=Φu b o:=by
  intro b o h1 h2
  have h3:=hb' b h1 h2
  have e1:Φ' b o=Φu b o:=by
   rw [k1.old b o (hl2.old b ⟨h1,fun ⟨p,e⟩=>h2 p e⟩),hl2.imm]
  have hlt:b < w1.heap.size:=Nat.lt_of_lt_of_le h1 hsz1
  rw [k3.old b o (hl3.old b ⟨by simpa using hlt,fun ⟨p,e⟩=>h3 p e⟩),hl3.imm]
  show freshI Φ2.imm Φ' ω' b o=_
  rw [freshI_eq h3,e1]
 have hWr:∀b,Old Φr W1 b→b < w.heap.size∧(∀p,ωm b≠some p)∧b≠l:=fun b hb=>
  ⟨Nat.lt_of_lt_of_le hb.1 hgp.below.size,fun p e=>hgp.noOld hb p (hωm b p e).1,fun e=>hlold (e ▸ hb)⟩
 have hcJ:(∀t,LowI (Kn σ') (F.t t))→CJ Φr W1 M a0 l { σ' with t:=F.t } I K w3:=by
  intro hlow
  have hgT:RelG Φr W1 M Φ'' μ'' ω'' { σ' with t:=F.t } a0 w3:=by
   refine ⟨hgp.below.trans (hs.mono hWr),hgp.defers,hgp.size,k3.imm,fun b o hb=>?_,fun t=>?_,fun t n k cs E e=>?_,fun id bs e=>?_,k3.gone,k3.lt,hgp.gmu,fun i g e hi=>?_,fun b o u e=>?_,fun id X e=>?_,fun g p e=>?_⟩
   ·obtain ⟨q1,q2,-⟩:=hWr b hb
    rw [hold b o q1 q2,hun b o (hnI b hb)]
    exact hgp.old b o hb
   ·refine ((hgp.tmps t).mono hup (fun _ _ e=>e)).lowI (hlow t) (fun i hi g e=>?_) |>.mono hsub (fun _ _ e=>e)
    exact k3.kmu i g (by rw [hmu3];exact e) hi.spec
   ·have h':=hF.t t
    have e' : F.t t = .sl n k cs (some E):=e
    rw [e'] at h'
    simp [PV.ownB] at h'
   ·exact (k3.box id bs e).inB (fun g q _ e=>by
     rcases hω'' g q e with ⟨q',hq'⟩|hq'
     ·exact hgp.mine g q' (hωm g q' hq').1
     ·exact .inl (Nat.le_trans hgp.below.size hq'))
   ·have hkF:=hkn i g e
    exact k3.kmu i g (by rw [hmu3];exact hgp.kmu i g e hkF.spec) hi
   ·have h':=hgp.ext b o u e
    exact ⟨hsub b o u (hup b o u h'.1),h'.2⟩
   ·exact (k3.map id X e).inB (fun g q _ e=>by
     rcases hω'' g q e with ⟨q',hq'⟩|hq'
     ·exact hgp.mine g q' (hωm g q' hq').1
     ·exact .inl (Nat.le_trans hgp.below.size hq'))
   ·rcases hω'' g p e with ⟨q',hq'⟩|hq'
    ·exact hgp.mine g q' (hωm g q' hq').1
    ·exact .inl (Nat.le_trans hgp.below.size hq')
  have hnω:∀g,g < w.heap.size→(∀p,ωp g≠some p)→∀p,ω'' g≠some p:=fun g h1 h2 p e=>by
   rcases hω'' g p e with ⟨q,hq⟩|hq
   ·exact h2 q (hωm g q hq).1
   ·omega
  refine ⟨Φ'',μ'',ω'',hgT,fun g hi=>hnω g (hI g hi).2 (hc1 g hi),hnω l hlw hc2,fun b o u hi e=>?_,fun g hi=>⟨fun ho=>hnI g ho hi,hIl g hi⟩⟩
  rw [hold b o (hI b hi).2 (fun p e=>hc1 b hi p (hωm b p e).1)] at e
  rcases hue b o u e with h' | h'
  ·exact hc3 b o u hi h'
  ·exact h'.2
 have hlw3:l < w3.heap.size:=Nat.lt_of_lt_of_le hlw hs.size
 have hIw3:∀g,I g→g < w3.heap.size:=fun g hi=>Nat.lt_of_lt_of_le (hI g hi).2 hs.size
 refine ⟨⟨hl3',hs.mono fun g hg=>?_,fun b o u e=>k3.imm b o u (hsub b o u (huK b o u e))⟩,?_⟩
 ·rcases hg with hi|⟨h1,h2⟩
  ·exact ⟨(hI g hi).2,fun p e=>hc1 g hi p (hωm g p e).1,hIl g hi⟩
  ·have hgl:g≠l:=by rintro rfl;exact h2 hmix
   exact ⟨Nat.lt_of_lt_of_le h1 hgp.below.size,fun p e=>h2 (hgivm g h1 (hgp.mine g p (hωm g p e).1) hgl),hgl⟩
 ·have hout:∀Q0:PS→Prop,roundOut M o L F.t Q0 σ'→∃G σe,CJ Φr W1 M a0 l G I K w3∧(∀i,Kn G i→i∈L)∧SubR (fun i=>i+o) (Kn σe) G σe∧Q0 σe:=by
   rintro Q0 ⟨h1,G,σe,h2,h3,h4,h5⟩
   exact ⟨G,σe,(hcJ h1).sub h2 hlw3 hIw3,h3,h4,h5⟩
  cases e with
  |normal=>exact ⟨hq'.1,(hcJ hq'.2.2).sub hq'.2.1 hlw3 hIw3⟩
  |ret=>exact hout _ hq'
  |exit i=>exact hout _ hq'
  |goto i=>exact hout _ hq'
  |panic ch=>exact hq'.elim
  |outgrown=>exact hq'.elim
end
section
open Go.RowKit
variable {M:Nat} {Q:Exit→PS→Prop} {σ:PS} {P:Program}
theorem enter_run {Φ0:Ent} {W:World} {Φ:Imm} {μ:Nat→Option Nat} {ω:Nat→Option Who} {a:Act} {w:World} (h:RelG Φ0 W M Φ μ ω σ a w) (fn:FuncId) (ps:Array Tmp) (assign body:Code) :
  ∃(l:Nat) (ms:List Nat) (df:Nat) (W1:World),(Instr.enterLoop fn a.tmps ps assign body (FW Φ0.round).round).run P w = .ok (l,ms.map collD) W1∧W1.heap[l]? = some (.loop { state:=.ready,pending:=none,fn,tmps:=a.tmps,params:=ps,assign,body,defers:=df })∧w.heap.size≤l∧Kept (fun b=>b < w.heap.size) w W1∧ms.Nodup ∧
   ∀m∈ms,w.heap.size≤m∧m < W1.heap.size∧m≠l∧W1.heap[m]? = some (.deferred (some [])):=by
 show ∃(l:Nat) (ms:List Nat) (df:Nat) (W1:World),(Instr.enterLoop fn a.tmps ps assign body Φ0.round).run P w=_∧_
 cases hro:Φ0.round with
 |none=>
  refine ⟨w.heap.size+1,[w.heap.size],w.heap.size,_,run_enterLoop_outer _ _ _ _ _,?_,by omega,⟨rfl,rfl,rfl,by simp;omega,fun k hk=>?_⟩,by simp,fun m hm=>?_⟩
  ·have:=World.alloc_heap_new (w.alloc (.deferred (some []))) (.loop { state:=.ready,pending:=none,fn,tmps:=a.tmps,params:=ps,assign,body,defers:=w.heap.size })
   rwa [World.size_alloc] at this
  ·rw [Below.heap_alloc _ _ _ (by simp;omega),Below.heap_alloc _ _ _ hk]
  ·have:m=w.heap.size:=by simpa using hm
   subst this
   refine ⟨Nat.le_refl _,by simp;omega,by omega,?_⟩
   exact (Below.heap_alloc _ _ _ (by simp)).trans (World.alloc_heap_new w _)
 |some l0=>
  obtain ⟨q1,q2,r,q3⟩:=h.rnd hro
  refine ⟨w.heap.size,[],r.defers,w.alloc (.loop { state:=.ready,pending:=none,fn,tmps:=a.tmps,params:=ps,assign,body,defers:=r.defers }),?_,World.alloc_heap_new w _,Nat.le_refl _,⟨rfl,rfl,rfl,by simp,fun k hk=>Below.heap_alloc _ _ _ hk⟩,by simp,fun m hm=>by cases hm⟩
  unfold Instr.enterLoop
  simp only [Sem.run_bind,run_getLoop q3,Result.andThen,Sem.run_pure,run_newObj_alloc]
  rfl
def putps (σ:PS):List Nat→List PV→PS
 |p :: ps,x :: xs=>putps (σ.put p x) ps xs
 |_,_=>σ
theorem putps_eq:∀(ps:List Nat) (xs:List PV) (σ:PS),{ σ with t:=setps σ.t ps xs } = putps σ ps xs
 | [],_,_=>rfl
 |_ :: _,[],_=>rfl
 |p :: ps,x :: xs,σ=>putps_eq ps xs (σ.put p x)
theorem lowT_bot {S:Nat→Prop} : ∀t,LowI S (bot.t t):=fun _=>.undef
theorem lowT_put {S:Nat→Prop} {σ:PS} {d:Nat} {p:PV} (h:∀t,LowI S (σ.t t)) (hp:LowI S p):∀t,LowI S ((σ.put d p).t t):=by
 intro t
 simp only [PS.put,upd_if]
 split
 ·exact hp
 ·exact h t
theorem lowT_setb {S:Nat→Prop} {σ:PS} {d:Nat} {bs:List PV} (h:∀t,LowI S (σ.t t)):∀t,LowI S ((σ.setb d bs).t t):=h
theorem lowT_setm {S:Nat→Prop} {σ:PS} {d:Nat} {X:PMap} (h:∀t,LowI S (σ.t t)):∀t,LowI S ((σ.setm d X).t t):=h
theorem roundP {o:Nat} {L:List Nat} {T:Nat→PV} {F' : PS} {Ip:Prop} (h1:Ip) (h2:Sub M { σ with t:=T } F') (h3:∀t,LowI (Kn σ) (T t)):RoundP M o L T F' Ip Q .normal σ:=⟨h1,h2,h3⟩
def PS.addG (σ:PS) (given:List (Nat×List PV)) (gm:List (Nat×PMap)):PS:={ t:=σ.t,b:=given.foldl (fun b x=>upd b x.1 (some x.2)) σ.b,m:=gm.foldl (fun b x=>upd b x.1 (some x.2)) σ.m }
open Classical in
theorem RelG.addG {Φ0:Ent} {W:World} {Φ:Imm} {μ:Nat→Option Nat} {ω:Nat→Option Who} {a:Act} {w:World} (h:RelG Φ0 W M Φ μ ω σ a w) {given:List (Nat×List PV)} {gm:List (Nat×PMap)} {K:Imm} {μg:Nat→Option Nat} {ωg:Nat→Option Who} (hok:LentOK given gm)
  (hgb:∀x∈given,BoxAt (fun _=>True) K μg ωg w x.1 x.2) (hgm:∀x∈gm,MapAt (fun _=>True) K μg ωg w x.1 x.2) (hK:∀b o u,K b o=some u→w.cell? ⟨b,o,none⟩=some u) (hfree:∀i∈ResIds given gm,¬Kn σ i)
  (hkmu:∀i∈ResIds given gm,∀g,Φ0.mu i=some g→μg i=some g) (hmine:∀g,LentB μg (ResIds given gm) g→Mine Φ0 W g) (hold:∀b o u,Old Φ0 W b→K b o=some u→Φ b o=some u)
  (hωL:∀g,LentB μg (ResIds given gm) g→∀p,ω g≠some p) (hωK:∀g p,ω g=some p→∀j u,K g j=some u→Φ g j=some u) (hΦL:∀g,LentB μg (ResIds given gm) g→∀j,Φ g j=none):Rel Φ0 W M (σ.addG given gm) a w:=by
 have hnd1:(given.map (·.1)).Nodup∧(gm.map (·.1)).Nodup:=by have:=hok.nd;unfold ResIds at this;rw [List.nodup_append] at this;exact ⟨this.1,this.2.1⟩
 have hdisj:∀i,i∈given.map (·.1)→i∈gm.map (·.1)→False:=by have:=hok.nd;unfold ResIds at this;rw [List.nodup_append] at this;exact fun i h1 h2=>this.2.2 i h1 i h2 rfl
 have hfr:∀i∈ResIds given gm,σ.b i=none∧σ.m i=none:=fun i hi=>PS.freeB_iff.1 (by simpa [Kn] using hfree i hi)
 let Φm:Imm:=fun b o=>(Φ b o).orElse fun _=>K b o
 let μm:Nat→Option Nat:=fun i=>if i∈ResIds given gm then μg i else μ i
 let ωm:Nat→Option Who:=fun g=>if LentB μg (ResIds given gm) g then ωg g else ω g
 have hue:∀b o u,Φm b o=some u→Φ b o=some u∨(Φ b o=none∧K b o=some u):=by
  intro b o u e
  have e' : ((Φ b o).orElse fun _=>K b o)=some u:=e
  cases hh:Φ b o with
  |some v=>rw [hh] at e'; left;simpa using e'
  |none=>rw [hh] at e'; right;exact ⟨rfl,by simpa using e'⟩
 have hup:∀b o u,Φ b o=some u→Φm b o=some u:=by
  intro b o u e
  show ((Φ b o).orElse fun _=>K b o)=some u
  rw [e];rfl
 have huK:∀b o u,K b o=some u→Φm b o=some u:=by
  intro b o u e
  show ((Φ b o).orElse fun _=>K b o)=some u
  cases hh:Φ b o with
  |none=>simpa using e
  |some v=>
   have e1:=h.imm b o v hh
   rw [hK b o u e] at e1
   simpa using e1.symm
 have hsame:∀b o,(∀u,K b o=some u→Φ b o=some u)→Φm b o=Φ b o:=by
  intro b o hh
  show ((Φ b o).orElse fun _=>K b o)=Φ b o
  cases h1:Φ b o with
  |some v=>rfl
  |none=>
   show K b o=none
   cases h2:K b o with
   |none=>rfl
   |some u=>rw [hh u h2] at h1;cases h1
 have hμm:∀i g,μ i=some g→μm i=some g:=by
  intro i g e
  show (if _ then _ else _)=_
  split
  ·rename_i hi
   obtain ⟨h1,h2⟩:=hfr i hi
   rw [h.gone i h1 h2] at e;cases e
  ·exact e
 have hμG:∀i,i∈ResIds given gm→∀g,μg i=some g→μm i=some g:=fun i hi g e=>by show (if _ then _ else _)=_;rw [if_pos hi];exact e
 have hωm:∀g p,ω g=some p→ωm g=some p:=by
  intro g p e
  show (if _ then _ else _)=_
  split
  ·rename_i hg;exact absurd e (hωL g hg p)
  ·exact e
 have hlent:=fun {g:Nat} (hg:LentB μg (ResIds given gm) g)=>lentB_of hgb hgm hg
 have hωG:∀i,i∈ResIds given gm→∀g,μg i=some g→ωg g=some (.box i)→ωm g=some (.box i)∧Mine Φ0 W g:=by
  intro i hi g e1 e2
  have hg:LentB μg (ResIds given gm) g:=⟨i,hi,e1⟩
  refine ⟨?_,hmine g hg⟩
  show (if _ then _ else _)=_
  rw [if_pos hg];exact e2
 have hωc:∀g p,ωm g=some p→(LentB μg (ResIds given gm) g∧ωg g=some p)∨ω g=some p:=by
  intro g p e
  have e' : (if LentB μg (ResIds given gm) g then ωg g else ω g)=some p:=e
  split at e'
  ·rename_i hg;exact .inl ⟨hg,e'⟩
  ·exact .inr e'
 have hkeep:KeptBy (fun _=>True) Φ Φm ω ωm w w:=fun q _ g e=>⟨rfl,fun j=>hsame g j (fun u=>hωK g q e j u),hωm g q e⟩
 have hgivenK:∀i,i∈ResIds given gm→∀g,μg i=some g→∀j,Φm g j=none:=by
  intro i hi g e j
  obtain ⟨g',h1,-,h3,-⟩:=lentB_at hgb hgm hi
  rw [e] at h1;cases h1
  cases hh:Φm g j with
  |none=>rfl
  |some u=>
   rcases hue g j u hh with h' | h'
   ·rw [hΦL g ⟨i,hi,e⟩] at h'; cases h'
   ·rw [h3] at h'; cases h'.2
 have hb1:∀(id:Nat) (bs:List PV),(id,bs)∈given→BoxAt (Mine Φ0 W) Φm μm ωm w id bs:=by
  intro id bs h1
  have hi:id∈ResIds given gm:=List.mem_append.2 (.inl (List.mem_map.2 ⟨_,h1,rfl⟩))
  obtain ⟨g,cur,T,k1,k2,k3,k4,k5,k6,k7⟩:=(hgb _ h1).lent (S:=fun i=>i∈ResIds given gm) (B':=Mine Φ0 W) (ω':=ωm) hi (hok.lowb _ h1) (hok.nob _ h1) hμG (fun g e1 e2=>hωG id hi g e1 e2)
  refine ⟨g,cur,T,k1,k2,k3,k4,fun j=>hgivenK id hi g ?_ j,k6,fun j c hc=>?_⟩
  ·have k1' : (if id∈ResIds given gm then μg id else μ id)=some g:=k1
   rwa [if_pos hi] at k1'
  ·obtain ⟨u,r1,r2,r3,-⟩:=k7 j c hc
   exact ⟨u,r1,r2,r3.mono huK (fun _ _ e=>e),fun n k cs E e=>by have:=hok.nob _ h1 c (mem_of_get hc);rw [e] at this;simp [PV.ownB] at this⟩
 have hm1:∀(id:Nat) (X:PMap),(id,X)∈gm→MapAt (Mine Φ0 W) Φm μm ωm w id X:=by
  intro id X h1
  have hi:id∈ResIds given gm:=List.mem_append.2 (.inr (List.mem_map.2 ⟨_,h1,rfl⟩))
  obtain ⟨g,k1,k2,k3,k4,k5⟩:=(hgm _ h1).lent (S:=fun i=>i∈ResIds given gm) (B':=Mine Φ0 W) (ω':=ωm) hi (hok.lowm _ h1) (hok.nom _ h1) hμG (fun g e1 e2=>hωG id hi g e1 e2)
  have k1' : μg id=some g:=by
   have k1' : (if id∈ResIds given gm then μg id else μ id)=some g:=k1
   rwa [if_pos hi] at k1'
  refine ⟨g,k1,k2,k3,fun j=>hgivenK id hi g k1' j,?_⟩
  cases X with
  |map es clock=>
   obtain ⟨e0,ents,e1,e2,e3⟩:=k5
   refine ⟨e0,ents,e1,e2,fun j s k c hj=>?_⟩
   obtain ⟨e,f1,f2,f3,f4,f5⟩:=e3 j s k c hj
   exact ⟨e,f1,f2,f3.mono huK (fun _ _ e=>e),f4.mono huK (fun _ _ e=>e),fun n kk cs E ec=>by have:=hok.nom _ h1 es clock rfl _ (mem_of_get hj);simp only [ec] at this;simp [PV.ownB] at this⟩
  |iter mid since seen last=>
   obtain ⟨gm',e1,e2⟩:=k5
   exact ⟨gm',e1,e2⟩
 refine ⟨Φm,μm,ωm,h.below,h.defers,h.size,fun b o u e=>(hue b o u e).elim (h.imm b o u) (fun h=>hK b o u h.2),fun b o hb=>(hsame b o (fun u=>hold b o u hb)).trans (h.old b o hb),fun t=>(h.tmps t).mono hup hμm,fun t n k cs E e=>(h.own t n k cs E e).step (fun g eg=>hkeep _ trivial g eg),fun id bs e=>?_,fun id eb em=>?_,fun g p e=>?_,h.gmu,fun id g e hi=>?_,fun b o u e=>⟨hup _ _ _ (h.ext b o u e).1,(h.ext b o u e).2⟩,fun id X e=>?_,fun g p e=>?_⟩
 ·rcases setb_cases given _ hnd1.1 e with h1|⟨-,h1⟩
  ·exact hb1 id bs h1
  ·exact (h.box id bs h1).step hup hμm (fun q hq g e=>hkeep q trivial g e)
 ·have hi:id∉ResIds given gm:=by
   intro hi
   rcases List.mem_append.1 hi with hi|hi
   ·obtain ⟨x,hx,rfl⟩:=List.mem_map.1 hi
    simp only [PS.addG] at eb
    rw [setb_get given _ hnd1.1 x hx] at eb;cases eb
   ·obtain ⟨x,hx,rfl⟩:=List.mem_map.1 hi
    simp only [PS.addG] at em
    rw [setb_get gm _ hnd1.2 x hx] at em;cases em
  show (if _ then _ else _)=_
  rw [if_neg hi]
  refine h.gone id ?_ ?_
  ·cases hs:σ.b id with
   |none=>rfl
   |some bs=>
    simp only [PS.addG] at eb
    rw [setb_not given σ.b (fun hh=>hi (List.mem_append.2 (.inl hh))),hs] at eb;cases eb
  ·cases hs:σ.m id with
   |none=>rfl
   |some bs=>
    simp only [PS.addG] at em
    rw [setb_not gm σ.m (fun hh=>hi (List.mem_append.2 (.inr hh))),hs] at em;cases em
 ·rcases hωc g p e with ⟨hg,-⟩|h'
  ·obtain ⟨i,-,-,-,-,h5⟩:=hlent hg
   exact h5
  ·exact h.lt g p h'
 ·show (if _ then _ else _)=_
  split
  ·rename_i hh;exact hkmu id hh g e
  ·rename_i hh
   refine h.kmu id g e ?_
   rcases hi with hi|hi
   ·left
    simp only [PS.addG] at hi
    rwa [setb_not given σ.b (fun hh' => hh (List.mem_append.2 (.inl hh')))] at hi
   ·right
    simp only [PS.addG] at hi
    rwa [setb_not gm σ.m (fun hh' => hh (List.mem_append.2 (.inr hh')))] at hi
 ·rcases setb_cases gm _ hnd1.2 e with h1|⟨-,h1⟩
  ·exact hm1 id X h1
  ·exact (h.map id X h1).step hup hμm (fun q hq g e=>hkeep q trivial g e)
 ·rcases hωc g p e with ⟨hg,-⟩|h'
  ·exact hmine g hg
  ·exact h.mine g p h'
open Classical in
theorem PW.rangeFuncG {g:Operand} {ps:Array Tmp} {assign body:Code} {f:FuncId} {caps:List PV} {given:List (Nat×List PV)} {gm:List (Nat×PMap)} {A S:List (List PV)→Prop} (o:Nat) (L:List Nat) (F:List (List PV)→PS) (I0:List (List PV)→Prop) (hI0:I0 [])
  (hg:pev σ g = .fn f caps) (hf:Nat.blt f 1000000=true) (hit:ItSpecG P f caps given gm A S) (hok:LentOK given gm) (hgivb:AllB σ (fun _=>true) given) (hgivmm:AllM σ (fun _=>true) gm) (hfar:∀i∈ResIds given gm,i+o∉L) (hin:SubR (fun i=>i - o) (Kn (F [])) σ (F []))
  (hk1:∀pre i,Kn (F pre) i→i∈L) (hk2:∀pre,∀i∈L,Kn (F pre) i) (hL:L.all (fun i=>Nat.ble o i)=true) (ho:1000000≤o) (hF:∀pre,OwnsS (F pre)) (hps:∀p∈ps.toList,p < M)
  (hx:∀pre x,A (pre ++ [x])→ps.toList.length=x.length∧∀p∈x,Low p∧p.ownB=false)
  (round:∀pre x,I0 pre→A (pre ++ [x])→PW P M assign (NormP fun σ1=>PW P M body (RoundP M o L (F pre).t (F (pre ++ [x])) (I0 (pre ++ [x])) (fun e σe=>(∀i∈ResIds given gm,¬Kn σe i)∧Q e (σe.addG given gm))) σ1) (putps (F pre) ps.toList x))
  (done:∀xs,S xs→I0 xs→∃σe,SubR (fun i=>i+o) (Kn σe) (F xs) σe∧(∀i∈ResIds given gm,¬Kn σe i)∧Q .normal (σe.addG given gm)):PW P M (.rangeFunc g ps assign body) Q σ:=by
 intro Φ0 W a w ⟨Φ,μ,ω,hg0⟩
 refine wpIn_rangeFunc ?_
 intro fn hfn
 obtain ⟨l,ms,df,W1,hent,hl1,hlw,hkW,hnd,hms⟩:=enter_run (P:=P) hg0 fn ps assign body
 obtain ⟨rec,hrec⟩:∃rec:LoopState→Option Code→Loop,rec=fun st pe=>{ state:=st,pending:=pe,fn,tmps:=a.tmps,params:=ps,assign,body,defers:=df }:=⟨_,rfl⟩
 have hl1' : W1.heap[l]? = some (.loop (rec .ready none)):=by rw [hrec];exact hl1
 have hlW:l < W1.heap.size:=(Array.getElem?_eq_some_iff.1 hl1).1
 -- the iterator's value
 have hev:=hg0.ev g
 rw [hg] at hev
 have hlt:f < 1000000:=by simpa [Nat.blt_eq] using hf
 obtain ⟨us,hgv,hus⟩:∃us:List Value,a.eval g = .func (.func f) #[] us.toArray∧RepL Φ μ caps us:=by
  obtain ⟨us,e1,e2⟩:=hev.fn_inv
  refine ⟨us,?_,e2⟩
  rw [e1]
  unfold fnV
  rw [if_pos hlt]
 -- the caller's memory,under high numbers
 have hnum:∀i,Kn (F []) i→o≤i:=fun i hi=>Nat.le_of_ble_eq_true (List.all_eq_true.1 hL i (hk1 [] i hi))
 have hA:=hg0.fresh0 (mu:=fun _=>none) (fun _ _ e=>by cases e) (fun _ _ e=>by cases e)
 have hB:=hin.rel (fun i hi=>hi.spec) (fun i j hi hj e=>by have:=hnum i hi;have:=hnum j hj;have e' : i - o=j - o:=e;omega) (fun i hi g e=>by cases e) hA
 generalize hμ1:(fun i=>if Kn (F []) i then μ (i - o) else none)=μ1 at hB
 generalize hω1:(fun g=>unren (fun i=>i - o) (Kn (F [])) (ω g))=ω1 at hB
 obtain ⟨ω2,hC,hω2⟩:=hB.mixed (hF [])
 have hω:∀g p,ω2 g=some p→(∃q,ω g=some q)∧Mix Φ g∧g < w.heap.size:=by
  intro g p e
  have hlt':=hC.lt g p e
  rcases hC.mine g p e with h' | h'
  ·omega
  ·exact ⟨h',(hω2 g p e).2,hlt'⟩
 have hD:RelG (hg0.freshE fun _=>none) w M Φ μ1 ω2 (F []) a W1:=by
  refine hC.grow (hC.below.trans (hkW.mono fun b hb=>hb.1)) (fun b o u e=>?_) (fun _ _ _=>rfl) (fun _ _ _ e=>e) (fun g p e=>⟨hkW.block g (hω g p e).2.2,fun _=>rfl⟩) hkW.size
  have:=hg0.imm b o u e
  simp only [World.cell?] at this ⊢
  rw [hkW.block b (RelG.fresh hg0 e)];exact this
 have hω2l:∀p,ω2 l≠some p:=fun p e=>by have:=(hω l p e).2.2;omega
 have hΦl:∀j,Φ l j=none:=fun j=>by
  cases hh:Φ l j with
  |none=>rfl
  |some u=>have:=RelG.fresh hg0 hh;omega
 have hmixl:Mix Φ l:=fun o u e=>by rw [hΦl] at e;cases e
 -- what is lent
 have hgb0:∀x∈given,BoxAt (Mine Φ0 W) Φ μ ω w x.1 x.2:=fun x hx=>hg0.box x.1 x.2 (hgivb.mem x hx).2
 have hgm0:∀x∈gm,MapAt (Mine Φ0 W) Φ μ ω w x.1 x.2:=fun x hx=>hg0.map x.1 x.2 (hgivmm.mem x hx).2
 have hlent:=fun {g:Nat} (hg:LentB μ (ResIds given gm) g)=>lentB_of hgb0 hgm0 hg
 have hkG:∀i∈ResIds given gm,σ.b i≠none∨σ.m i≠none:=by
  intro i hi
  rcases List.mem_append.1 hi with hi|hi
  ·obtain ⟨x,hx,rfl⟩:=List.mem_map.1 hi
   left;rw [(hgivb.mem x hx).2];simp
  ·obtain ⟨x,hx,rfl⟩:=List.mem_map.1 hi
   right;rw [(hgivmm.mem x hx).2];simp
 have hLmix:∀g,LentB μ (ResIds given gm) g→Mix Φ g:=fun g hg=>by
  obtain ⟨i,-,-,-,h4,-⟩:=hlent hg
  intro o u e;rw [h4] at e;cases e
 have hLω2:∀g,LentB μ (ResIds given gm) g→∀p,ω2 g≠some p:=by
  intro g hg p e
  obtain ⟨i,hi,-,h3,-⟩:=hlent hg
  have e1:=(hω2 g p e).1
  rw [←hω1] at e1
  have e2:unren (fun i=>i - o) (Kn (F [])) (ω g)=some p:=e1
  rw [h3] at e2
  unfold unren at e2
  split at e2
  ·rename_i h2;cases h2
  ·split at e2
   ·rename_i hh
    obtain ⟨q,⟨j,hj,hq⟩,e⟩:=hh
    rcases hq with rfl|⟨y,rfl⟩
    ·simp only [renW,Option.some.injEq,Who.box.injEq] at e
     have hjo:=hnum j hj
     refine hfar i hi ?_
     rw [e,Nat.sub_add_cancel hjo]
     exact hk1 [] j hj
    ·simp [renW] at e
   ·cases e2
 let Φr:Ent:=⟨Φ,fun g=>(∃p,ω2 g=some p)∨(g=l∨LentB μ (ResIds given gm) g),μ1,hg0.glob,fun g hg' => hg'.elim (fun ⟨p,e⟩=>(hω g p e).2.1) (fun e=>e.elim (fun e=>e ▸ hmixl) (hLmix g)),ms ++ Φ0.marks,Φ0.round⟩
 let a0:Act:={ a with defers:=ms.map collD ++ a.defers }
 have hμk:∀i g,μ1 i=some g→Kn (F []) i∧μ (i - o)=some g:=by
  intro i g e
  rw [←hμ1] at e
  have e' : (if Kn (F []) i then μ (i - o) else none)=some g:=e
  split at e'
  ·rename_i hk;exact ⟨hk,e'⟩
  ·cases e'
 have hR:RelG Φr W1 M Φ μ1 ω2 (F []) a0 W1:=by
  refine hD.rebaseA rfl (Kept.refl _ _) ⟨?_,fun l0 e=>?_⟩ (fun b o hb=>rfl) (fun i g e=>Nat.le_trans ho (hnum i (hμk i g e).1)) (fun i g e _=>e) (fun b o u e=>⟨e,Nat.lt_of_lt_of_le (RelG.fresh hg0 e) hkW.size⟩) (fun g p e=>.inr (.inl ⟨p,e⟩))
  ·show ms.map collD ++ a.defers=(ms ++ Φ0.marks).map collD
   rw [hg0.defers.1,List.map_append]
  ·obtain ⟨q1,q2,r,q3⟩:=hg0.rnd e
   refine ⟨⟨Nat.lt_of_lt_of_le q1 hkW.size,fun hh=>?_⟩,r,(hkW.block l0 q1).trans q3⟩
   rcases hh with ⟨p,hp⟩|rfl|hh
   ·obtain ⟨⟨q,hq⟩,-⟩:=hω l0 p hp;exact q2 q hq
   ·omega
   ·obtain ⟨i,-,-,h3,-⟩:=hlent hh;exact q2 _ h3
 have hlold:¬Old Φr W1 l:=fun hh=>hh.2 (.inr (.inl rfl))
 have hLold:∀g,LentB μ (ResIds given gm) g→¬Old Φr W1 g:=fun g hg hh=>hh.2 (.inr (.inr hg))
 have hLlt:∀g,LentB μ (ResIds given gm) g→g < w.heap.size:=fun g hg=>by obtain ⟨i,-,-,-,-,h5⟩:=hlent hg;exact h5
 have hLl:¬LentB μ (ResIds given gm) l:=fun hg=>by have:=hLlt l hg;omega
 -- what is known of the caller's memory
 let Out:Code→PS→PS→Prop:=fun c G σe=>(∀i,Kn G i→i∈L)∧SubR (fun i=>i+o) (Kn σe) G σe∧(∀i∈ResIds given gm,¬Kn σe i)∧(match c with | .ret=>Q .ret (σe.addG given gm) | .exit i=>Q (.exit i) (σe.addG given gm) | .goto i=>Q (.goto i) (σe.addG given gm)|_=>False)
 let J:Come→(Nat→Prop)→Imm→World→Prop:=fun κ I K w' => l < w'.heap.size∧match κ with
  |some pre=>I0 pre∧w'.heap[l]? = some (.loop (rec .ready none))∧CJ Φr W1 M a0 l (F pre) I K w'
  |none=>∃c G σe,Out c G σe∧w'.heap[l]? = some (.loop (rec .done (some c)))∧CJ Φr W1 M a0 l G I K w'
 let E:ItEnv:=⟨J,fun {κ I I' K K' w1 w2} hJ hk hI hK hc=>by
  obtain ⟨hlt',hJ⟩:=hJ
  have hnl:∀{G:PS},CJ Φr W1 M a0 l G I K w1→w2.heap[l]? = w1.heap[l]?:=fun hcj=>hk.block l ⟨hlt',fun hi=>by obtain ⟨_,_,_,_,_,_,_,h4⟩:=hcj;exact (h4 l hi).2 rfl⟩
  refine ⟨Nat.lt_of_lt_of_le hlt' hk.size,?_⟩
  cases κ with
  |some pre=>exact ⟨hJ.1,(hnl hJ.2.2).trans hJ.2.1,hJ.2.2.step hlt' hk hI hK hc⟩
  |none=>
   obtain ⟨c,G,σe,h1,h2,h3⟩:=hJ
   exact ⟨c,G,σe,h1,(hnl h3).trans h2,h3.step hlt' hk hI hK hc⟩⟩
 have hJ0:E.J (some []) (LentB μ (ResIds given gm)) Φ W1:=⟨hlW,hI0,hl1',Φ,μ1,ω2,hR,hLω2,hω2l,fun b o u h e=>e,fun g h=>⟨hLold g h,fun e=>hLl (e ▸ h)⟩⟩
 have hY:YOK P E l A Φ (LentB μ (ResIds given gm)) W1.heap.size:=by
  intro pre x I K w1 vs hAx hJ hI hLI hK hK1 hK2 hKg hrep
  obtain ⟨hlt',hip,hlr,hcj⟩:=hJ
  obtain ⟨hxl,hxx⟩:=hx pre x hAx
  have hy:=run_yield (P:=P) (args:=vs.toArray) hlr (by rw [hrec];have:=hrep.1;simp at hxl ⊢; omega)
  rw [hrec] at hy
  refine ⟨fn,_,assign,body,hy,?_⟩
  have hrs:=round_sound (Φe:=Φ) (r0:=rec .ready none) (Lb:=LentB μ (ResIds given gm)) hLI hLold hLl (Q:=fun e σe=>(∀i∈ResIds given gm,¬Kn σe i)∧Q e (σe.addG given gm)) (o:=o) (L:=L) (F:=F pre) (F':=F (pre ++ [x])) (ps:=ps.toList) (x:=x) (fun g h1 h2 h3=>by
    rcases h2 with h2|h2
    ·omega
    ·exact Φr.fl g h2) rfl (fun i g e=>hk2 pre i (hk1 [] i (hμk i g e).1)) (fun i hi=>Nat.le_trans ho (Nat.le_of_ble_eq_true (List.all_eq_true.1 hL i (hk1 pre i hi)))) hlW hlold hmixl (hF pre) hps hxl hxx (by rw [putps_eq];exact round pre x hip hAx) hcj hlr (by rw [hrec]) hI hK hK1 hK2 hrep
  have htm:(ps.zip vs.toArray).foldl (fun tmps (t,a)=>tmps.setIfInBounds t a) a.tmps=(ps.toList.zip vs).foldl (fun t (p,v)=>t.setIfInBounds p v) a0.tmps:=by
   rw [←Array.foldl_toList,Array.toList_zip]
  refine roundIn_of_wpIn trivial ?_
  simp only
  rw [htm]
  refine wpIn_mono hrs ?_
  rintro e a1 w2 hq
  cases e with
  |normal=>?_
  |_=>exact hq
  obtain ⟨w3,hbr,hbody⟩:=hq
  refine ⟨w3,hbr,wpIn_mono hbody ?_⟩
  rintro e a3 w4 ⟨⟨hl4,hk4,hK4⟩,hq⟩
  have hl4' : l < w4.heap.size:=(Array.getElem?_eq_some_iff.1 hl4).1
  have hnl:∀g,(I g∨(g < W1.heap.size∧¬Mix Φ g))→g≠l:=by
   rintro g (hi|⟨-,h2⟩) rfl
   ·rcases (hI g hi).1 with h' | h'
    ·omega
    ·exact hLl h'
   ·exact h2 hmixl
  have fin:∀(jump:Option Code),(J (if jump.isNone then some (pre ++ [x]) else none) I K (w4.putObj l (.loop (rec (if jump.isNone then .ready else .done) jump))))→∃v w',(Instr.endRound l jump).run P w4 = .ok v w'∧(fun e w2=>∃b:Bool,e=Ending.returned (.bool b)∧E.J (if b then some (pre ++ [x]) else none) I K w2∧Kept (fun g=>I g∨(g < W1.heap.size∧¬Mix Φ g)) w1 w2∧(∀b o u,K b o=some u→w2.cell? ⟨b,o,none⟩=some u)) (.returned v) w':=by
   intro jump hJ'
   have:=run_endRound (P:=P) jump hl4
   rw [hrec] at this hJ'
   refine ⟨_,_,this,jump.isNone,rfl,hJ',hk4.trans ⟨rfl,rfl,rfl,by simp,fun k hk=>World.putObj_heap_other (hnl k hk)⟩,fun b o u e=>putObj_cell (loop_nocell hl4) (hK4 b o u e)⟩
  have same:∀r',(w4.putObj l (.loop r')).heap[l]? = some (.loop r'):=fun r' => World.putObj_heap_same hl4'
  cases e with
  |normal=>exact fin none ⟨by simpa using hl4',hq.1,same _,CJ.putLoop hq.2 hl4 hlold _⟩
  |ret=>
   obtain ⟨G,σe,h1,h2,h3,h4,h5⟩:=hq
   exact fin (some .ret) ⟨by simpa using hl4', .ret,G,σe,⟨h2,h3,h4,h5⟩,same _,CJ.putLoop h1 hl4 hlold _⟩
  |exit i=>
   obtain ⟨G,σe,h1,h2,h3,h4,h5⟩:=hq
   exact fin (some (.exit i)) ⟨by simpa using hl4', .exit i,G,σe,⟨h2,h3,h4,h5⟩,same _,CJ.putLoop h1 hl4 hlold _⟩
  |goto i=>
   obtain ⟨G,σe,h1,h2,h3,h4,h5⟩:=hq
   exact fin (some (.goto i)) ⟨by simpa using hl4', .goto i,G,σe,⟨h2,h3,h4,h5⟩,same _,CJ.putLoop h1 hl4 hlold _⟩
  |panic ch=>exact hq.elim
  |outgrown=>exact hq.elim
 -- the call of the iterator
 refine ⟨l,ms.map collD,W1,{ target:=.fn (.func f) us.toArray,args := #[.func (.yield l) #[] #[]] },W1,f,#[.func (.yield l) #[] #[]] ++ us.toArray,W1,hent,?_,fun f' _=>trivial,?_,(fun e=>by cases e),?_⟩
 ·simp only [resolve,hgv]
  simp [go_sem]
 ·simp [invoke,go_sem,run_callFunc hit.1]
 have hW1:∀g,g < w.heap.size→W1.heap[g]? = w.heap[g]?:=fun g hg=>hkW.block g hg
 have hgb1:∀x∈given,BoxAt (fun _=>True) Φ μ ω W1 x.1 x.2:=fun x hx=>by
  obtain ⟨g,cur,T,k1,k2,k3,k4,k5,k6,k7⟩:=hgb0 x hx
  refine ⟨g,cur,T,k1,by rw [hW1 g (hg0.lt g _ k4)];exact k2,trivial,k4,k5,k6,fun j c hc=>?_⟩
  obtain ⟨u,r1,r2,r3,-⟩:=k7 j c hc
  exact ⟨u,r1,r2,r3,fun n k cs E e=>by have:=hok.nob x hx c (mem_of_get hc);rw [e] at this;simp [PV.ownB] at this⟩
 have hgm1:∀x∈gm,MapAt (fun _=>True) Φ μ ω W1 x.1 x.2:=fun x hx=>by
  obtain ⟨g,k1,k2,k3,k4,k5⟩:=hgm0 x hx
  refine ⟨g,k1,trivial,k3,k4,?_⟩
  obtain ⟨xi,X⟩:=x
  cases X with
  |map es clock=>
   obtain ⟨e0,ents,e1,e2,e3⟩:=k5
   refine ⟨e0,ents,by rw [hW1 g (hg0.lt g _ k3)];exact e1,e2,fun j s k c hj=>?_⟩
   obtain ⟨e,f1,f2,f3,f4,f5⟩:=e3 j s k c hj
   exact ⟨e,f1,f2,f3,f4,fun n kk cs E ec=>by have:=hok.nom _ hx es clock rfl _ (mem_of_get hj);simp only [ec] at this;simp [PV.ownB] at this⟩
  |iter mid since seen last=>
   obtain ⟨gm',e1,e2⟩:=k5
   exact ⟨gm',e1,by rw [hW1 g (hg0.lt g _ k3)];exact e2⟩
 refine (Calls.inW (hit.2 E l Φ μ ω W1 us hR.imm hg0.glob hus hgb1 hgm1 hY hJ0)).mono ?_
 rintro e w2 ⟨v,κ,K,I,rfl,hS,⟨hlt2,hJ2⟩,hLI,hKi,hK1,hK2,-,hgb2,hgm2⟩
 -- behind the loop
 have back:∀(G σe:PS) (r' : Loop),(∀i,Kn G i→i∈L)→SubR (fun i=>i+o) (Kn σe) G σe→(∃r,w2.heap[l]? = some (.loop r))→CJ Φr W1 M a0 l G I K w2→(∀i∈ResIds given gm,¬Kn σe i)→∃Φe We,Later Φ0 W Φe We∧Rel Φe We M (σe.addG given gm) a0 (w2.putObj l (.loop r')):=by
  rintro G σe r' hGL hsub ⟨r,hlr⟩ hcj hfree
  obtain ⟨Φ3,μ3,ω3,h3,h3I,h3l,h3K,-⟩:=hcj.putLoop hlr hlold (.loop r')
  have h4:=hsub.rel (fun i hi=>hi.spec) (fun i j hi hj e=>by have e' : i+o=j+o:=e;omega) (fun i hi g e=>by cases e) (h3.fresh0 (mu:=fun _=>none) (fun _ _ e=>by cases e) (fun _ _ e=>by cases e))
  have hext:∀b o u,Φ0.imm b o=some u→Φ b o=some u∧b < W.heap.size:=hg0.ext
  have hWw:=hg0.below.size
  have hwW:=hkW.size
  have hold0:∀b,Old Φ0 W b→b < w.heap.size∧Old Φr W1 b:=by
   intro b hb
   have h1:b < w.heap.size:=Nat.lt_of_lt_of_le hb.1 hWw
   refine ⟨h1,Nat.lt_of_lt_of_le h1 hwW,fun hh=>?_⟩
   rcases hh with ⟨p,hp⟩|rfl|hh
   ·obtain ⟨⟨q,hq⟩,-⟩:=hω b p hp;exact hg0.noOld hb q hq
   ·omega
   ·obtain ⟨i,-,-,h3,-⟩:=hlent hh;exact hg0.noOld hb _ h3
  have holdm:∀m∈ms,Old Φr W1 m:=by
   intro m hm
   obtain ⟨q1,q2,q3,q4⟩:=hms m hm
   refine ⟨q2,fun hh=>?_⟩
   rcases hh with ⟨p,hp⟩|rfl|hh
   ·have:=(hω m p hp).2.2;omega
   ·exact q3 rfl
   ·have:=hLlt m hh;omega
  have hfl:∀g,(Mine Φ0 W g∧g < W1.heap.size∧g∉ms)→Mix Φ0.imm g:=by
   rintro g ⟨h',-⟩
   rcases h' with h' | h'
   ·intro o u e;have:=(hext g o u e).2;omega
   ·exact Φ0.fl g h'
  let Φe:Ent:=⟨Φ0.imm,fun g=>Mine Φ0 W g∧g < W1.heap.size∧g∉ms,Φ0.mu,Φ0.glob,hfl,ms ++ Φ0.marks,Φ0.round⟩
  have holdc:∀b,Old Φe W1 b→Old Φ0 W b∨b∈ms:=by
   rintro b ⟨hb1,hb2⟩
   by_cases hm:b∈ms
   ·exact .inr hm
   ·left
    by_cases hmi:Mine Φ0 W b
    ·exact absurd ⟨hmi,hb1,hm⟩ hb2
    ·exact ⟨Nat.lt_of_not_le fun hh=>hmi (.inl hh),fun hh=>hmi (.inr hh)⟩
  have holde:∀b,Old Φ0 W b→Old Φe W1 b:=fun b hb=>⟨(hold0 b hb).2.1,fun hh=>hh.1.ne hb rfl⟩
  have hkW0:Kept (Old Φ0 W) W W1:=hg0.below.trans (hkW.mono fun b hb=>(hold0 b hb).1)
  have hlat:Later Φ0 W Φe W1:=by
   refine ⟨rfl,rfl,rfl,hkW0,holde,fun g hg' => ?_,fun b hb=>(holdc b hb).imp id (fun h=>List.mem_append.2 (.inl h)),fun _ b o u e=>(hext b o u e).2,ms,rfl,hnd,fun m hm=>?_⟩
   ·rcases hg' with h' | h'
    ·exact .inl (Nat.le_trans hkW0.size h')
    ·exact h'.1
   ·obtain ⟨q1,q2,q3,q4⟩:=hms m hm
    exact ⟨Nat.le_trans hWw q1,⟨q2,fun hh=>hh.2.2 hm⟩,q4⟩
  have hmineL:∀g,LentB μ (ResIds given gm) g→Mine Φe W1 g:=fun g hg=>by
   obtain ⟨i,-,-,q3,-⟩:=hlent hg
   refine .inr ⟨hg0.mine g _ q3,Nat.lt_of_lt_of_le (hLlt g hg) hwW,fun hm=>?_⟩
   have:=(hms g hm).1;have:=hLlt g hg;omega
  have hKlow:∀b o u,b < W1.heap.size→¬LentB μ (ResIds given gm) b→K b o=some u→Φ3 b o=some u:=fun b o u hb hn e=>(h3.ext b o u (by rw [hK1 b o hb hn] at e;exact e)).1
  have h4ω:∀g p,unren (fun i=>i+o) (Kn σe) (ω3 g)=some p→∃q,ω3 g=some q:=by
   intro g p e
   cases hh:ω3 g with
   |none=>
    rw [hh] at e
    unfold unren at e
    simp at e
   |some q=>exact ⟨q,rfl⟩
  have hrb:RelG Φe W1 M Φ3 _ _ σe a0 (w2.putObj l (.loop r')):=h4.rebase (h3.below.mono fun b hb=>?_) ⟨?_,fun l0 e=>?_⟩ (fun b o hb=>?_) hg0.gmu (fun i g e hi=>?_) (fun b o u e=>?_) (fun g p e=>?_)
  ·have hput:∀g,LentB μ (ResIds given gm) g→(w2.putObj l (.loop r')).heap[g]? = w2.heap[g]?:=fun g hg=>World.putObj_heap_other (fun e=>hLl (e ▸ hg))
   refine ⟨Φe,W1,hlat,hrb.addG hok (K:=K) (μg:=μ) (ωg:=ω) (fun x hx=>?_) (fun x hx=>?_) (fun b o u e=>putObj_cell (loop_nocell hlr) (hKi b o u e)) hfree (fun i hi g e=>hg0.kmu i g e (hkG i hi)) hmineL (fun b o u hb e=>?_) (fun g hg p e=>?_) (fun g p e j u ek=>?_) (fun g hg j=>?_)⟩
   ·have hi:x.1∈ResIds given gm:=List.mem_append.2 (.inl (List.mem_map.2 ⟨x,hx,rfl⟩))
    obtain ⟨g,cur,T,k1,k2,k3,k4,k5,k6,k7⟩:=hgb2 x hx
    refine ⟨g,cur,T,k1,by rw [hput g ⟨_,hi,k1⟩];exact k2,trivial,k4,k5,k6,fun j c hc=>?_⟩
    obtain ⟨u,r1,r2,r3,-⟩:=k7 j c hc
    exact ⟨u,r1,r2,r3,fun n k cs E e=>by have:=hok.nob x hx c (mem_of_get hc);rw [e] at this;simp [PV.ownB] at this⟩
   ·have hi:x.1∈ResIds given gm:=List.mem_append.2 (.inr (List.mem_map.2 ⟨x,hx,rfl⟩))
    obtain ⟨g,k1,k2,k3,k4,k5⟩:=hgm2 x hx
    refine ⟨g,k1,trivial,k3,k4,?_⟩
    have hp:=hput g ⟨_,hi,k1⟩
    obtain ⟨xi,X⟩:=x
    cases X with
    |map es clock=>
     obtain ⟨e0,ents,e1,e2,e3⟩:=k5
     refine ⟨e0,ents,by rw [hp];exact e1,e2,fun j s k c hj=>?_⟩
     obtain ⟨e,f1,f2,f3,f4,f5⟩:=e3 j s k c hj
     exact ⟨e,f1,f2,f3,f4,fun n kk cs E ec=>by have:=hok.nom _ hx es clock rfl _ (mem_of_get hj);simp only [ec] at this;simp [PV.ownB] at this⟩
    |iter mid since seen last=>
     obtain ⟨gm',e1,e2⟩:=k5
     exact ⟨gm',e1,by rw [hp];exact e2⟩
   ·exact hKlow b o u hb.1 (fun hl=>(hmineL b hl).ne hb rfl) e
   ·obtain ⟨q,hq⟩:=h4ω g p e
    exact h3I g (hLI g hg) q hq
   ·obtain ⟨q,hq⟩:=h4ω g p e
    rcases Nat.lt_or_ge g W1.heap.size with hlt|hge
    ·refine hKlow g j u hlt (fun hl=>h3I g (hLI g hl) q hq) ek
    ·exact absurd hq (h3I g (hK2 g j u hge ek) q)
   ·cases hh:Φ3 g j with
    |none=>rfl
    |some u=>
     have e1:=h3K g j u (hLI g hg) hh
     obtain ⟨i,-,-,-,h5,-⟩:=lentB_of hgb2 hgm2 hg
     rw [h5] at e1;cases e1
  ·rcases holdc b hb with h' | h'
   ·exact (hold0 b h').2
   ·exact holdm b h'
  ·exact h3.defers.1
  ·obtain ⟨q1,q2⟩:=hg0.defers.2 l0 e
   obtain ⟨r0,q2⟩:=q2
   exact ⟨holde l0 q1,r0,(hkW0.block l0 q1).trans q2⟩
  ·rcases holdc b hb with h' | h'
   ·rw [h3.old b o (hold0 b h').2]
    exact hg0.old b o h'
   ·obtain ⟨q1,q2,q3,q4⟩:=hms b h'
    rw [h3.old b o (holdm b h')]
    show Φ b o=Φ0.imm b o
    have e1:Φ b o=none:=by
     cases hh:Φ b o with
     |none=>rfl
     |some u=>have:=RelG.fresh hg0 hh;omega
    have e2:Φ0.imm b o=none:=by
     cases hh:Φ0.imm b o with
     |none=>rfl
     |some u=>have:=(hext b o u hh).2;omega
    rw [e1,e2]
  ·have hSi:Kn σe i∧Kn G (i+o):=by
    rcases hi with hi|hi
    ·obtain ⟨qs,hqs⟩:=Option.ne_none_iff_exists'.1 hi
     obtain ⟨h1,ps',h2,-⟩:=hsub.b i qs hqs
     exact ⟨h1,Kn.ofb h2⟩
    ·obtain ⟨qs,hqs⟩:=Option.ne_none_iff_exists'.1 hi
     obtain ⟨h1,ps',h2,-⟩:=hsub.m i qs hqs
     exact ⟨h1,Kn.ofm h2⟩
   have hkF:Kn (F []) (i+o):=hk2 [] _ (hGL _ hSi.2)
   have hσ:σ.b i≠none∨σ.m i≠none:=by
    rcases hkF.spec with h' | h'
    ·obtain ⟨qs,hqs⟩:=Option.ne_none_iff_exists'.1 h'
     obtain ⟨-,ps',h2,-⟩:=hin.b _ qs hqs
     left;simp only [Nat.add_sub_cancel] at h2;rw [h2];simp
    ·obtain ⟨qs,hqs⟩:=Option.ne_none_iff_exists'.1 h'
     obtain ⟨-,ps',h2,-⟩:=hin.m _ qs hqs
     right;simp only [Nat.add_sub_cancel] at h2;rw [h2];simp
   have h5:μ i=some g:=hg0.kmu i g e hσ
   have h6:μ1 (i+o)=some g:=by
    rw [←hμ1]
    show (if _ then _ else _)=_
    rw [if_pos hkF,Nat.add_sub_cancel];exact h5
   show (if Kn σe i then μ3 (i+o) else none)=some g
   rw [if_pos hSi.1]
   exact h3.kmu (i+o) g h6 hSi.2.spec
  ·have h':=hext b o u e
   exact ⟨(h3.ext b o u h'.1).1,Nat.lt_of_lt_of_le h'.2 (Nat.le_trans hWw hwW)⟩
  ·have h' : ∃q,ω3 g=some q:=by
    have h1:=h4.mine g p e
    have h2:=h4.lt g p e
    rcases h1 with h1|h1
    ·simp at h1 h2;omega
    ·exact h1
   obtain ⟨q,hq⟩:=h'
   have hgl:g≠l:=by rintro rfl;exact h3l q hq
   rcases h3.mine g q hq with h1|h1
   ·exact .inl h1
   ·rcases h1 with ⟨p',hp'⟩|h1|h1
    ·obtain ⟨⟨q',hq'⟩,-,hlt'⟩:=hω g p' hp'
     refine .inr ⟨hg0.mine g q' hq',Nat.lt_of_lt_of_le hlt' hwW,fun hm=>?_⟩
     have:=(hms g hm).1;omega
    ·exact absurd h1 hgl
    ·exact absurd hq (h3I g (hLI g h1) q)
 cases κ with
 |some xs=>
  obtain ⟨hip,hlr,hcj⟩:=hJ2
  obtain ⟨σe,h1,hfr,h2⟩:=done xs (hS xs rfl) hip
  have hend:=run_endLoop (P:=P) hlr (by rw [hrec];simp)
  rw [hrec] at hend
  obtain ⟨Φe,We,h3,h4⟩:=back (F xs) σe { rec .ready none with state:=.exhausted } (fun i hi=>hk1 xs i hi) h1 ⟨_,hlr⟩ hcj hfr
  rw [hrec] at h4
  exact ⟨none,_,hend,σe.addG given gm,Φe,We,h2,h3,h4⟩
 |none=>
  obtain ⟨c,G,σe,⟨h1,h2,hfr,h3⟩,hlr,hcj⟩:=hJ2
  have hend:=run_endLoop (P:=P) hlr (by rw [hrec];simp)
  rw [hrec] at hend
  obtain ⟨Φe,We,h4,h5⟩:=back G σe { rec .done (some c) with state:=.exhausted } h1 h2 ⟨_,hlr⟩ hcj hfr
  rw [hrec] at h5
  refine ⟨some c,_,hend,?_⟩
  simp only
  cases c with
  |ret=>exact wpIn_ret ⟨σe.addG given gm,Φe,We,h3,h4,h5⟩
  |exit i=>exact wpIn_exit ⟨σe.addG given gm,Φe,We,h3,h4,h5⟩
  |goto i=>exact wpIn_goto ⟨σe.addG given gm,Φe,We,h3,h4,h5⟩
  |_=>exact h3.elim
theorem RoundP.mono {o:Nat} {L:List Nat} {T:Nat→PV} {F' : PS} {Ip:Prop} {Q Q' : Exit→PS→Prop} (hq:∀e σ,Q e σ→Q' e σ) {e:Exit} {σ:PS} (h:RoundP M o L T F' Ip Q e σ):RoundP M o L T F' Ip Q' e σ:=by
 cases e with
 |normal=>exact h
 |ret=>obtain ⟨h1,G,σe,h2,h3,h4,h5⟩:=h;exact ⟨h1,G,σe,h2,h3,h4,hq _ _ h5⟩
 |exit i=>obtain ⟨h1,G,σe,h2,h3,h4,h5⟩:=h;exact ⟨h1,G,σe,h2,h3,h4,hq _ _ h5⟩
 |goto i=>obtain ⟨h1,G,σe,h2,h3,h4,h5⟩:=h;exact ⟨h1,G,σe,h2,h3,h4,hq _ _ h5⟩
 |panic ch=>exact h
 |outgrown=>exact h
end
section
open Go.RowKit
theorem pcStrings (zs:List ByteArray) (hf:SmallStrs zs) (hl:zs.length≤1000000):PCalls Tryz.prog 35 [pstrs zs] (· = pbytesO (strsB zs)):=
 pcalls1 (by kernel_rfl) fun Φ μ w v himm hr=>(wireStrings v zs w (strs_of_rep himm hr) hf hl).mono (by
  rintro e w' ⟨u,rfl,ho,hb⟩
  exact post_own himm (plain_int _) ho hb)
inductive AsPt (id:Nat) (cs:List PV):PV→PV→Prop
 |same (p:PV):AsPt id cs p p
 |ptr (off:Nat):AsPt id cs (.ptr id off) (.ep cs off)
 |fn (f:FuncId) (ps qs:List PV) (hl:ps.length=qs.length) (h:∀(j:Nat) p q,ps[j]? = some p→qs[j]? = some q→AsPt id cs p q):AsPt id cs (.fn f ps) (.fn f qs)
 |ep (ps qs:List PV) (off:Nat) (hl:ps.length=qs.length) (h:∀(j:Nat) p q,ps[j]? = some p→qs[j]? = some q→AsPt id cs p q):AsPt id cs (.ep ps off) (.ep qs off)
def AsPtL (id:Nat) (cs:List PV) (ps qs:List PV):Prop:=ps.length=qs.length∧∀(j:Nat) p q,ps[j]? = some p→qs[j]? = some q→AsPt id cs p q
theorem AsPtL.nil {id:Nat} {cs:List PV} : AsPtL id cs [] []:=⟨rfl,fun j p q h=>by simp at h⟩
theorem AsPtL.cons {id:Nat} {cs:List PV} {p q:PV} {ps qs:List PV} (h:AsPt id cs p q) (hs:AsPtL id cs ps qs):AsPtL id cs (p :: ps) (q :: qs):=by
 refine ⟨by simp [hs.1],fun j p' q' h1 h2=>?_⟩
 cases j with
 |zero=>simp at h1 h2;subst h1 h2;exact h
 |succ j=>exact hs.2 j p' q' (by simpa using h1) (by simpa using h2)
theorem AsPt.rep {id:Nat} {cs:List PV} {p q:PV} (h:AsPt id cs p q) {Φ Φ' : Imm} {μ:Nat→Option Nat} (hΦ:∀b o u,Φ b o=some u→Φ' b o=some u) (hT:∀g off,μ id=some g→Rep Φ' μ (.ep cs off) (.pointer (some ⟨g,off,none⟩))) {v:Value} (hr:Rep Φ μ p v):Rep Φ' μ q v:=by
 induction h generalizing v with
 |same p=>exact hr.mono hΦ (fun _ _ e=>e)
 |ptr off=>obtain ⟨g,hg,rfl⟩:=hr.ptr_inv;exact hT g off hg
 |fn f ps qs hl h ih=>
  cases hr with
  |fn _ _ us hu=>
   rw [hl]
   refine .fn f qs us fun j c hc=>?_
   obtain ⟨p,hp⟩:=get_of_len hl hc
   exact ih j p c hp hc (hu j p hp)
 |ep ps qs off hl h ih=>
  cases hr with
  |ep _ _ b o us hp hu=>
   refine .ep qs off b o us (fun j hj=>hΦ _ _ _ (hp j (by rw [hl];exact hj))) fun j c hc=>?_
   obtain ⟨p,hp'⟩:=get_of_len hl hc
   exact ih j p c hp' hc (hu j p hp')
theorem BoxAt.stands {B:Nat→Prop} {Φ Φ' : Imm} {μ μ' : Nat→Option Nat} {ω ω' : Nat→Option Who} {w:World} {id:Nat} {bs:List PV} (h:BoxAt B Φ μ ω w id bs) {B' : Nat→Prop} (hB:∀g,B g→B' g) (hs:∀c∈bs,Stands c) (hμ:∀i g,μ i=some g→μ' i=some g) (hω:∀g q,OfId id q→ω g=some q→ω' g=some q∧∀j,Φ' g j=Φ g j):BoxAt B' Φ' μ' ω' w id bs:=by
 obtain ⟨g,cur,T,h1,h2,h3,h4,h5,h6,h7⟩:=h
 obtain ⟨k1,k2⟩:=hω g _ (.inl rfl) h4
 refine ⟨g,cur,T,hμ _ _ h1,h2,hB _ h3,k1,fun j=>by rw [k2];exact h5 j,h6,fun j c hc=>?_⟩
 obtain ⟨u,r1,r2,r3,r4⟩:=h7 j c hc
 exact ⟨u,r1,r2,(hs c (mem_of_get hc)).rep hμ r3 (fun n k cs E e=>r4 n k cs E e) (fun g e=>(hω g _ (.inr ⟨j,rfl⟩) e).2),fun n k cs E e=>by
  rcases r4 n k cs E e with ho|⟨g',cap,cur',q1,q2,q3,q4,q5,q6,q7,q8⟩|ho
  ·exact .inl ho
  ·obtain ⟨k1,k2⟩:=hω g' _ (.inr ⟨j,rfl⟩) q7
   exact .inr (.inl ⟨g',cap,cur',q1,hB _ q2,q3,q4,q5,q6,k1,q8.1,fun j hj=>by rw [k2];exact q8.2 j hj⟩)
  ·exact .inr (.inr ho)⟩
theorem MapAt.stands {B:Nat→Prop} {Φ Φ' : Imm} {μ μ' : Nat→Option Nat} {ω ω' : Nat→Option Who} {w:World} {id:Nat} {X:PMap} (h:MapAt B Φ μ ω w id X) {B' : Nat→Prop} (hB:∀g,B g→B' g) (hs:∀es clock,X = .map es clock→∀e∈es,FlatV e.2.1∧Stands e.2.2) (hμ:∀i g,μ i=some g→μ' i=some g) (hω:∀g q,OfId id q→ω g=some q→ω' g=some q∧∀j,Φ' g j=Φ g j):MapAt B' Φ' μ' ω' w id X:=by
 obtain ⟨g,h1,h2,h3,h4,h5⟩:=h
 obtain ⟨k1,k2⟩:=hω g _ (.inl rfl) h3
 refine ⟨g,hμ _ _ h1,hB _ h2,k1,fun j=>by rw [k2];exact h4 j,?_⟩
 cases X with
 |map es clock=>
  obtain ⟨e0,ents,e1,e2,e3⟩:=h5
  refine ⟨e0,ents,e1,e2,fun j s k c hj=>?_⟩
  obtain ⟨e,f1,f2,f3,f4,f5⟩:=e3 j s k c hj
  have h':=hs es clock rfl _ (mem_of_get hj)
  refine ⟨e,f1,f2,f3.flatV hμ h'.1,h'.2.rep hμ f4 (fun n k cs E e=>f5 n k cs E e) (fun g e=>(hω g _ (.inr ⟨s,rfl⟩) e).2),fun n kk cs E ec=>?_⟩
  rcases f5 n kk cs E ec with ho|⟨g',cap,cur',q1,q2,q3,q4,q5,q6,q7,q8⟩|ho
  ·exact .inl ho
  ·obtain ⟨k1,k2⟩:=hω g' _ (.inr ⟨s,rfl⟩) q7
   exact .inr (.inl ⟨g',cap,cur',q1,hB _ q2,q3,q4,q5,q6,k1,q8.1,fun j hj=>by rw [k2];exact q8.2 j hj⟩)
  ·exact .inr (.inr ho)
 |iter mid since seen last=>
  obtain ⟨gm,e1,e2⟩:=h5
  exact ⟨gm,hμ _ _ e1,e2⟩
theorem HCalls.lend {P:Program} {f:FuncId} {args args' : List PV} {id:Nat} {cs:List PV} {given res:List (Nat×List PV)} {gm rm:List (Nat×PMap)} {r:PV} (h:HCalls P f args given gm r res rm) (hA:AsPtL id cs args' args)
  (hid:id∉ResIds given gm) (hid2:id∉ResIds res rm) (hsub:∀i∈ResIds given gm,i∈ResIds res rm) (hlow:∀c∈cs,LowI (fun i=>i∈ResIds given gm) c) (hno:∀c∈cs,c.ownB=false) (hr:Stands r) (hres:∀x∈res,∀c∈x.2,Stands c) (hrm:∀x∈rm,∀es clock,x.2 = .map es clock→∀e∈es,FlatV e.2.1∧Stands e.2.2) :
  HCalls P f args' ((id,cs) :: given) gm r ((id,cs) :: res) rm:=by
 refine ⟨h.1,fun Φ μ ω w vs himm hgl hrep hgb hgmm hlt=>?_⟩
 have hbox:=hgb (id,cs) (List.mem_cons_self ..)
 obtain ⟨g,cur,Ty,b1,b2,b3,b4,b5,b6,b7⟩:=hbox
 simp only at b1 b4 b6 b7
 have hcellg:∀o,w.cell? ⟨g,o,none⟩=cur[o]?:=fun o=>by simp [World.cell?,b2]
 have hΦ1:∀b o u,Φ b o=some u→immRow Φ g cur b o=some u:=by
  intro b o u e
  unfold immRow
  rw [if_neg]
  ·exact e
  ·rintro rfl;rw [b5] at e;cases e
 have hother:∀b o,b≠g→immRow Φ g cur b o=Φ b o:=fun b o hb=>by unfold immRow;rw [if_neg hb]
 have hT:∀g' off,μ id=some g'→Rep (immRow Φ g cur) μ (.ep cs off) (.pointer (some ⟨g',off,none⟩)):=by
  intro g' off e
  rw [b1] at e;cases e
  have e0:(⟨g,off,none⟩:Addr)=⟨g,0+off,none⟩:=by rw [Nat.zero_add]
  rw [e0]
  refine .ep cs off g 0 (fun j=>cur.getD j undef) (fun j hj=>?_) (fun j c hc=>?_)
  ·unfold immRow
   rw [if_pos rfl,Nat.zero_add,Array.getD_eq_getD_getElem?,Array.getElem?_eq_getElem (by omega)];rfl
  ·obtain ⟨u,r1,r2,r3,-⟩:=b7 j c hc
   rw [Array.getD_eq_getD_getElem?,r1]
   exact r3.mono hΦ1 (fun _ _ e=>e)
 have hne:∀i∈ResIds given gm,∀q,OfId i q→∀g',ω g' = some q→g'≠g:=by
  rintro i hi q hq g' e rfl
  rw [b4] at e;cases e
  rcases hq with hq|⟨j,hq⟩
  ·cases hq;exact hid hi
  ·cases hq
 have hkeep:∀i∈ResIds given gm,KeptBy (OfId i) Φ (immRow Φ g cur) ω ω w w:=fun i hi q hq g' e=>⟨rfl,fun j=>hother g' j (hne i hi q hq g' e),e⟩
 have hrun:=h.2 (immRow Φ g cur) μ ω w vs (fun b o u e=>by
   unfold immRow at e
   split at e
   ·rename_i hb;subst hb;rw [hcellg];exact e
   ·exact himm b o u e) (fun x hx j z e=>hΦ1 _ _ _ (hgl x hx j z e)) ⟨by rw [hrep.1,hA.1],fun j c u hc hu=>by
   obtain ⟨p,hp⟩:=get_of_len hA.1 hc
   exact (hA.2 j p c hp hc).rep hΦ1 hT (hrep.2 j p u hp hu)⟩
  (fun x hx=>(hgb x (List.mem_cons_of_mem _ hx)).step hΦ1 (fun _ _ e=>e) (hkeep x.1 (List.mem_append.2 (.inl (List.mem_map.2 ⟨x,hx,rfl⟩)))))
  (fun x hx=>(hgmm x hx).step hΦ1 (fun _ _ e=>e) (hkeep x.1 (List.mem_append.2 (.inr (List.mem_map.2 ⟨x,hx,rfl⟩))))) hlt
 refine hrun.mono ?_
 rintro e w' ⟨v,Φ',μ',ω',rfl,p1,p2,p3,p4,p5,p6,p7,p8,p9,p10,p11⟩
 have hglt:g < w.heap.size:=hlt g _ b4
 have hgn:¬Giv ω (ResIds given gm) g:=by
  rintro ⟨i,hi,q,hq,e⟩
  exact hne i hi q hq g e rfl
 have hno' : ∀q,ω' g≠some q:=by
  intro q e
  rcases (p10 g q e).2 with h' | h'
  ·omega
  ·exact hgn h'
 have hrid:∀i,i∈ResIds ((id,cs) :: given) gm↔i=id∨i∈ResIds given gm:=by intro i;simp [ResIds]
 have hrid2:∀i,i∈ResIds ((id,cs) :: res) rm↔i=id∨i∈ResIds res rm:=by intro i;simp [ResIds]
 have hgiv:∀b,Giv ω (ResIds given gm) b→Giv ω (ResIds ((id,cs) :: given) gm) b:=fun b ⟨i,hi,k⟩=>⟨i,(hrid i).2 (.inr hi),k⟩
 have hgivg:Giv ω (ResIds ((id,cs) :: given) gm) g:=⟨id,(hrid id).2 (.inl rfl),_, .inl rfl,b4⟩
 have hnew:∀b,NewOr ω w (ResIds given gm) b→NewOr ω w (ResIds ((id,cs) :: given) gm) b:=fun b hb=>hb.imp (fun h=>h) (hgiv b)
 let Φ2:Imm:=fun b o=>if b=g then none else Φ' b o
 let μ2:Nat→Option Nat:=fun i=>if i=id then some g else μ' i
 let ω2:Nat→Option Who:=fun b=>if b=g then some (.box id) else ω' b
 have hΦ2:∀b o,b≠g→Φ2 b o=Φ' b o:=fun b o hb=>by show (if _ then _ else _)=_;rw [if_neg hb]
 have hΦg:∀o,Φ2 g o=none:=fun o=>by show (if _ then _ else _)=_;rw [if_pos rfl]
 have hμ2:∀i g',μ' i=some g'→μ2 i=some g':=by
  intro i g' e
  have:=p7 i g' e
  show (if _ then _ else _)=_
  have hi:i≠id:=by rintro rfl;exact hid2 this
  rw [if_neg hi];exact e
 have hω2:∀b q,ω' b=some q→b≠g∧ω2 b=some q:=by
  intro b q e
  have hb:b≠g:=by rintro rfl;exact hno' q e
  exact ⟨hb,by show (if _ then _ else _)=_;rw [if_neg hb];exact e⟩
 refine ⟨v,Φ2,μ2,ω2,rfl,?_,fun b o u e=>?_,fun b o u e=>?_,fun b o hb hng=>?_,p5.mono (fun k hk=>⟨hk.1,fun h=>hk.2 (hgiv k h)⟩),fun i hi=>?_,fun i g' e=>?_,fun x hx=>?_,fun x hx=>?_,fun b q e=>?_,fun n k cs' E e=>?_⟩
 ·exact hr.rep hμ2 p1 (fun n k cs E e=>p11 n k cs E e) (fun b e j=>hΦ2 b j (hω2 b _ e).1)
 ·have e' : (if b=g then none else Φ' b o)=some u:=e
  split at e'
  ·cases e'
  ·exact p2 b o u e'
 ·have hb:b≠g:=by rintro rfl;rw [b5] at e;cases e
  rw [hΦ2 b o hb]
  exact p3 b o u (hΦ1 b o u e)
 ·have hb' : b≠g:=by rintro rfl;exact hng hgivg
  rw [hΦ2 b o hb',p4 b o hb (fun h=>hng (hgiv b h)),hother b o hb']
 ·show (if _ then _ else _)=_
  rcases (hrid i).1 hi with rfl|hi2
  ·rw [if_pos rfl,b1]
  ·have hi' : i≠id:=by rintro rfl;exact hid hi2
   rw [if_neg hi'];exact p6 i hi2
 ·have e' : (if i=id then some g else μ' i)=some g':=e
  split at e'
  ·rename_i h'; exact (hrid2 i).2 (.inl h')
  ·exact (hrid2 i).2 (.inr (p7 i g' e'))
 ·rcases List.mem_cons.1 hx with rfl|hx
  ·refine ⟨g,cur,Ty,by show (if _ then _ else _)=_;rw [if_pos rfl],?_, .inr hgivg,by show (if _ then _ else _)=_;rw [if_pos rfl],hΦg,b6,fun j c hc=>?_⟩
   ·rw [p5.block g ⟨hglt,hgn⟩];exact b2
   ·obtain ⟨u,r1,r2,r3,-⟩:=b7 j c hc
    refine ⟨u,r1,r2,?_,fun n k cs' E e=>by have:=hno c (mem_of_get hc);rw [e] at this;simp [PV.ownB] at this⟩
    refine (r3.mono (Φ':=Φ2) (fun b o u e=>?_) (fun _ _ e=>e)).lowI (hlow c (mem_of_get hc)) (fun i hi g' e=>?_)
    ·have hb:b≠g:=by rintro rfl;rw [b5] at e;cases e
     rw [hΦ2 b o hb]
     exact p3 b o u (hΦ1 b o u e)
    ·exact hμ2 i g' (by rw [p6 i hi];exact e)
  ·exact (p8 x hx).stands hnew (hres x hx) hμ2 (fun b q _ e=>⟨(hω2 b q e).2,fun j=>hΦ2 b j (hω2 b q e).1⟩)
 ·exact (p9 x hx).stands hnew (hrm x hx) hμ2 (fun b q _ e=>⟨(hω2 b q e).2,fun j=>hΦ2 b j (hω2 b q e).1⟩)
 ·have e' : (if b=g then some (.box id) else ω' b)=some q:=e
  split at e'
  ·rename_i hb;subst hb;exact ⟨Nat.lt_of_lt_of_le hglt p5.size, .inr hgivg⟩
  ·obtain ⟨q1,q2⟩:=p10 b q e'; exact ⟨q1,hnew b q2⟩
 ·rcases p11 n k cs' E e with ho|⟨g',cap,cur',q1,q2,q3,q4,q5,q6,q7,q8⟩|ho
  ·exact .inl ho
  ·obtain ⟨k1,k2⟩:=hω2 g' _ q7
   exact .inr (.inl ⟨g',cap,cur',q1,hnew g' q2,q3,q4,q5,q6,k2,q8.1,fun j hj=>by rw [hΦ2 g' j k1];exact q8.2 j hj⟩)
  ·exact .inr (.inr ho)
def dg (r:PRef) (i:Nat):PV:=pbyte (r.dig.getD i 0)
def digL (r:PRef):List PV := [dg r 0,dg r 1,dg r 2,dg r 3,dg r 4,dg r 5,dg r 6,dg r 7,dg r 8,dg r 9,dg r 10,dg r 11,dg r 12,dg r 13,dg r 14,dg r 15]
def prefL (r:PRef):List PV := [pint r.kind,pint r.id,dg r 0,dg r 1,dg r 2,dg r 3,dg r 4,dg r 5,dg r 6,dg r 7,dg r 8,dg r 9,dg r 10,dg r 11,dg r 12,dg r 13,dg r 14,dg r 15]
def pref (r:PRef):PV:=.agg (prefL r)
def prefs (l:List PRef):PV:=.sl l.length 18 (l.flatMap prefL) none
def pmanL (m:PMan):List PV := [pint m.ver,pints m.notes,prefs m.refs]
def pman (m:PMan):PV:=.agg (pmanL m)
theorem low_prefL (r:PRef):∀c∈prefL r,Low c:=by
 intro c hc
 simp only [prefL,List.mem_cons,List.not_mem_nil,or_false] at hc
 rcases hc with rfl|rfl|rfl|rfl|rfl|rfl|rfl|rfl|rfl|rfl|rfl|rfl|rfl|rfl|rfl|rfl|rfl|rfl<;>exact .val _
theorem low_pref (r:PRef):Low (pref r)↔True:=⟨fun _=>trivial,fun _=>.agg _ (low_prefL r)⟩
theorem low_rows (l:List PRef):∀c∈l.flatMap prefL,Low c:=by
 intro c hc
 obtain ⟨r,-,h⟩:=List.mem_flatMap.1 hc
 exact low_prefL r c h
theorem low_prefs (l:List PRef):Low (prefs l)↔True:=⟨fun _=>trivial,fun _=>.sl _ _ _ _ (low_rows l)⟩
theorem low_pmanL (m:PMan):∀c∈pmanL m,Low c:=by
 intro c hc
 simp only [pmanL,List.mem_cons,List.not_mem_nil,or_false] at hc
 rcases hc with rfl|rfl|rfl
 ·exact .val _
 ·exact (low_pints _).2 trivial
 ·exact (low_prefs _).2 trivial
theorem low_pman (m:PMan):Low (pman m)↔True:=⟨fun _=>trivial,fun _=>.agg _ (low_pmanL m)⟩
theorem rows_len (l:List PRef):(l.flatMap prefL).length=l.length * 18:=flatMap_len (f:=prefL) (k:=18) (fun _=>rfl) l
def cmpI (x y:Int):Int:=if x < y then -1 else if y < x then 1 else 0
def orI (a b:Int):Int:=if a≠0 then a else b
def ordR (a b:PRef):Int:=orI (cmpI a.kind b.kind) (cmpI a.id b.id)
set_option maxRecDepth 10000 in
theorem pw_nan (x:Int):PCalls Tryz.prog 100 [pint x] (· = pbool false):=by
 have e:(!(x == x))=false:=by simp
 refine pcalls_of_pw typeTab_ok Tryz.func100 rfl (by kernel_rfl) (by simp [low_pint,low_pints,low_pstr,low_pbool,low_pbytes,low_pstrs]) (by simp [pint,pints,pstr,pbool,pstrs,pbytes,PV.ownB]) (by rw [Tryz.ntmps100];simp) ?_
 rw [Tryz.ntmps100,Tryz.results100]
 refine wk ?_
 refine retP rfl (by exact lw) ?_
 simp [pbool]
set_option maxRecDepth 10000 in
theorem pw_cmp (x y:Int):PCalls Tryz.prog 93 [pint x,pint y] (· = pint (cmpI x y)):=by
 have h1:=pw_nan x
 have h2:=pw_nan y
 refine pcalls_of_pw typeTab_ok Tryz.func93 rfl (by kernel_rfl) (by simp [low_pint,low_pints,low_pstr,low_pbool,low_pbytes,low_pstrs]) (by simp [pint,pints,pstr,pbool,pstrs,pbytes,PV.ownB]) (by rw [Tryz.ntmps93];simp) ?_
 rw [Tryz.ntmps93,Tryz.results93]
 unfold cmpI
 by_cases g1:x < y
 ·rw [if_pos g1]
  refine wk ?_
  exact retP rfl (by exact lw) rfl
 ·rw [if_neg g1]
  by_cases g2:y < x
  ·rw [if_pos g2]
   refine wk ?_
   exact retP rfl (by exact lw) rfl
  ·rw [if_neg g2]
   refine wk ?_
   exact retP rfl (by exact lw) rfl
set_option maxRecDepth 10000 in
theorem pw_or (a b:Int):PCalls Tryz.prog 92 [.sl 2 1 [pint a,pint b] none] (· = pint (orI a b)):=by
 have hl:Low (.sl 2 1 [pint a,pint b] none):=.sl _ _ _ _ (by intro c hc;simp only [List.mem_cons,List.not_mem_nil,or_false] at hc;rcases hc with rfl|rfl<;>exact .val _)
 refine pcalls_of_pw typeTab_ok Tryz.func92 rfl (by kernel_rfl) (by simp [hl]) (by simp [PV.ownB]) (by rw [Tryz.ntmps92];simp) ?_
 rw [Tryz.ntmps92,Tryz.results92]
 unfold orI
 refine wk ?_
 refine PW.loop (fun k:Nat=>(((((bot.put 0 (.sl 2 1 [pint a,pint b] none)).put 3 (pint 0)).put 6 (.sl 2 1 [pint a,pint b] none)).put 7 (pint 2)).put 8 (pint k))) (fun k=>k≤2∧(0 < k→a=0)∧(1 < k→b=0)) (fun k=>2 - k) 0 ⟨by omega,by omega,by omega⟩ ?_ ?_
 ·exact sb
 ·rintro k ⟨hk,ka,kb⟩
  obtain rfl|rfl|rfl:k=0∨k=1∨k=2:=by omega
  ·by_cases g:a=0
   ·refine wk ?_
    refine loopP 1 ⟨by omega,fun _=>g,by omega⟩ (by omega) ?_
    exact sb
   ·rw [if_pos g]
    refine wk ?_
    exact retP rfl (by exact lw) rfl
  ·have g:=ka (by omega)
   rw [if_neg (by simp [g])]
   by_cases g2:b=0
   ·refine wk ?_
    refine loopP 2 ⟨by omega,fun _=>g,fun _=>g2⟩ (by omega) ?_
    exact sb
   ·refine wk ?_
    exact retP rfl (by exact lw) rfl
  ·have g:=ka (by omega)
   have g2:=kb (by omega)
   rw [if_neg (by simp [g]),g2]
   refine wk ?_
   exact retP rfl (by exact lw) rfl
set_option maxRecDepth 10000 in
theorem pw_refCompare (a b:PRef):PCalls Tryz.prog 79 [pref a,pref b] (· = pint (ordR a b)):=by
 have h1:=pw_cmp a.kind b.kind
 have h2:=pw_cmp a.id b.id
 have h3:=pw_or (cmpI a.kind b.kind) (cmpI a.id b.id)
 refine pcalls_of_pw typeTab_ok Tryz.func79 rfl (by kernel_rfl) (by simp [low_pint,low_pints,low_pstr,low_pbool,low_pbytes,low_pstrs,low_pref]) (by simp [pint,pints,pstr,pbool,pstrs,pbytes,PV.ownB,pref]) (by rw [Tryz.ntmps79];simp) ?_
 rw [Tryz.ntmps79,Tryz.results79]
 refine wk ?_
 exact retP rfl (by exact lw) rfl
set_option maxRecDepth 10000 in
theorem pw_order (a b:PRef):PCalls Tryz.prog 46 [pref a,pref b] (· = pint (ordR a b)):=by
 have h1:=pw_refCompare a b
 refine pcalls_of_pw typeTab_ok Tryz.func46 rfl (by kernel_rfl) (by simp [low_pint,low_pints,low_pstr,low_pbool,low_pbytes,low_pstrs,low_pref]) (by simp [pint,pints,pstr,pbool,pstrs,pbytes,PV.ownB,pref]) (by rw [Tryz.ntmps46];simp) ?_
 rw [Tryz.ntmps46,Tryz.results46]
 refine wk ?_
 exact retP rfl (by exact lw) rfl
theorem ordR_lt {a b:PRef} : ordR a b < 0↔refLt a b=true:=by
 rw [refLt_iff];unfold ordR orI cmpI
 repeat' split
 all_goals omega
theorem ordR_zero {a b:PRef} : ordR a b=0↔a.kind=b.kind∧a.id=b.id:=by
 unfold ordR orI cmpI
 repeat' split
 all_goals omega
def DM.check (D:DM) (i:Int):Int:=if D.dead then 220 else if i < 0∨(D.cells.length:Int)≤i then 1 else 0
def DM.step (D:DM):Int×DM:=if D.after=0 then (220,{ D with dead:=true }) else (0,{ D with steps:=D.steps+1,after:=if 0 < D.after then D.after - 1 else D.after })
set_option maxRecDepth 10000 in
set_option maxHeartbeats 1000000 in
theorem dc_Size (D:DM):DCalls 48 [] D (pint D.cells.length) D:=by
 refine dcalls_of_pw Tryz.func48 rfl rfl (by simp) (by simp) (by decide) (.val _) ?_
 refine wk ?_
 exact RetH.mk rfl (Weak.refl _) ⟨⟨_,rfl,WeakL.refl _⟩,⟨_,rfl,WeakL.refl _⟩,trivial⟩ ⟨⟨rfl,rfl⟩,trivial⟩
set_option maxRecDepth 10000 in
set_option maxHeartbeats 1000000 in
theorem dc_Down (D:DM):DCalls 49 [] D (pbool D.dead) D:=by
 refine dcalls_of_pw Tryz.func49 rfl rfl (by simp) (by simp) (by decide) (.val _) ?_
 refine wk ?_
 exact RetH.mk rfl (Weak.refl _) ⟨⟨_,rfl,WeakL.refl _⟩,⟨_,rfl,WeakL.refl _⟩,trivial⟩ ⟨⟨rfl,rfl⟩,trivial⟩
set_option maxRecDepth 10000 in
set_option maxHeartbeats 1000000 in
theorem dc_check (D:DM) (i:Int):DCalls 54 [pint i] D (pint (D.check i)) D:=by
 refine dcalls_of_pw Tryz.func54 rfl rfl (by exact lw) (by simp [pint,PV.ownB]) (Nat.le_of_ble_eq_true rfl) (by exact lw) ?_
 obtain ⟨cells,op,clock,steps,after,dead⟩:=D
 cases dead
 ·by_cases h1:i < 0
  ·have hc:DM.check ⟨cells,op,clock,steps,after,false⟩ i=1:=by simp [DM.check,h1]
   rw [hc]
   refine wk ?_
   exact RetH.mk rfl (Weak.refl _) ⟨⟨_,rfl,WeakL.refl _⟩,⟨_,rfl,WeakL.refl _⟩,trivial⟩ ⟨⟨rfl,rfl⟩,trivial⟩
  ·by_cases h2:(cells.length:Int)≤i
   ·have hc:DM.check ⟨cells,op,clock,steps,after,false⟩ i=1:=by simp [DM.check,h2]
    rw [hc]
    refine wk ?_
    exact RetH.mk rfl (Weak.refl _) ⟨⟨_,rfl,WeakL.refl _⟩,⟨_,rfl,WeakL.refl _⟩,trivial⟩ ⟨⟨rfl,rfl⟩,trivial⟩
   ·have hc:DM.check ⟨cells,op,clock,steps,after,false⟩ i=0:=by simp [DM.check,h1,h2]
    rw [hc]
    refine wk ?_
    exact RetH.mk rfl (Weak.refl _) ⟨⟨_,rfl,WeakL.refl _⟩,⟨_,rfl,WeakL.refl _⟩,trivial⟩ ⟨⟨rfl,rfl⟩,trivial⟩
 ·have hc:DM.check ⟨cells,op,clock,steps,after,true⟩ i=220:=by simp [DM.check]
  rw [hc]
  refine wk ?_
  exact RetH.mk rfl (Weak.refl _) ⟨⟨_,rfl,WeakL.refl _⟩,⟨_,rfl,WeakL.refl _⟩,trivial⟩ ⟨⟨rfl,rfl⟩,trivial⟩
set_option maxRecDepth 10000 in
set_option maxHeartbeats 1000000 in
theorem dc_step (D:DM) (h:0≤D.steps∧D.steps≤1000000000 ∧ -1≤D.after) (h2:D.after≤9223372036854775807):DCalls 89 [] D (pint D.step.1) D.step.2:=by
 refine dcalls_of_pw Tryz.func89 rfl rfl (by simp) (by simp) (by decide) (by exact lw) ?_
 obtain ⟨cells,op,clock,steps,after,dead⟩:=D
 simp only at h h2
 by_cases h1:after=0
 ·have hc:DM.step ⟨cells,op,clock,steps,after,dead⟩=(220,⟨cells,op,clock,steps,after,true⟩):=by simp [DM.step,h1]
  rw [hc]
  refine wk ?_
  exact RetH.mk rfl (Weak.refl _) ⟨⟨_,rfl,WeakL.refl _⟩,⟨_,rfl,WeakL.refl _⟩,trivial⟩ ⟨⟨rfl,rfl⟩,trivial⟩
 ·by_cases h3:0 < after
  ·have hc:DM.step ⟨cells,op,clock,steps,after,dead⟩=(0,⟨cells,op,clock,steps+1,after - 1,dead⟩):=by simp [DM.step,h1,h3]
   rw [hc]
   refine wk ?_
   exact RetH.mk rfl (Weak.refl _) ⟨⟨_,rfl,WeakL.refl _⟩,⟨_,rfl,WeakL.refl _⟩,trivial⟩ ⟨⟨rfl,rfl⟩,trivial⟩
  ·have hc:DM.step ⟨cells,op,clock,steps,after,dead⟩=(0,⟨cells,op,clock,steps+1,after,dead⟩):=by simp [DM.step,h1,h3]
   rw [hc]
   refine wk ?_
   exact RetH.mk rfl (Weak.refl _) ⟨⟨_,rfl,WeakL.refl _⟩,⟨_,rfl,WeakL.refl _⟩,trivial⟩ ⟨⟨rfl,rfl⟩,trivial⟩
def psec (s:Sec):PV:=.agg (secL s)
theorem psec_low (s:Sec):Low (psec s):=.agg _ (secL_low s)
def opIdx (i:Int):List (Nat×Int×List Sec)→Nat→Option Nat
 | [],_=>none
 |(_,k,_) :: l,n=>if i=k then some n else opIdx i l (n+1)
theorem opIdx_find (i:Int):∀(l:List (Nat×Int×List Sec)) (n:Nat),mfind .int (.int .i64 i) (l.map dE) n=some (opIdx i l n)
 | [],n=>rfl
 |(s,k,v) :: l,n=>by
  simp only [List.map_cons,dE,pint,mfind,veq,if_true,opIdx]
  by_cases h:i=k
  ·subst h;simp
  ·have:(i == k)=false:=by simpa using h
   rw [this,if_neg h]
   exact opIdx_find i l (n+1)
theorem opIdx_lt {i:Int} : ∀{l:List (Nat×Int×List Sec)} {n j:Nat},opIdx i l n=some j→n≤j∧j < n+l.length∧∃s v,l[j - n]? = some (s,i,v)
 | [],n,j,h=>by simp [opIdx] at h
 |(s,k,v) :: l,n,j,h=>by
  simp only [opIdx] at h
  split at h
  ·rename_i e;subst e;cases h;exact ⟨Nat.le_refl _,by simp,s,v,by simp⟩
  ·obtain ⟨h1,h2,s',v',h3⟩:=opIdx_lt h
   refine ⟨by omega,by simp;omega,s',v',?_⟩
   rw [show j - n=(j - (n+1))+1 by omega];simpa using h3
instance:Inhabited (Nat×Int×List Sec):=⟨(0,0,[])⟩
def DM.get (D:DM) (i:Int):List Sec:=match opIdx i D.op 0 with
 |some j=>(D.op.getD j default).2.2
 |none => []
def lastS (l:List Sec):Sec:=l.getD ((l.length:Int) - 1).toNat default
def DM.cell (D:DM) (i:Int):DCell:=D.cells.getD i.toNat default
def DM.read (D:DM) (i:Int):Sec×Int:=if D.check i=0 then (if 0 < (D.get i).length then (lastS (D.get i),0) else if (D.cell i).bad then (zeroSec,221) else ((D.cell i).s,0)) else (zeroSec,D.check i)
theorem dget (D:DM) (i:Int) {ki ei:TyI} (hk:ki.kind = .int .i64) (he:zeroPV ei=some .nilsl):∃b,mget ki ei (D.op.map dE) (.int .i64 i)=some (if opIdx i D.op 0=none then .nilsl else psecs (D.get i) none,b):=by
 unfold mget
 simp only [hk,keyOK,skT,decide_true,if_true,opIdx_find]
 cases h:opIdx i D.op 0 with
 |none=>exact ⟨false,by simp [he,PV.bare]⟩
 |some j=>
  obtain ⟨-,h2,s,v,h3⟩:=opIdx_lt h
  simp only [Nat.sub_zero] at h3
  refine ⟨true,?_⟩
  simp only [List.getElem?_map,h3,Option.map_some,dE,reduceCtorEq,if_false,DM.get,h,List.getD_eq_getElem?_getD,Option.getD_some]
  rfl
theorem check0 {D:DM} {i:Int} (h:D.check i=0):D.dead=false∧0≤i∧i < D.cells.length:=by
 unfold DM.check at h
 split at h
 ·cases h
 ·split at h
  ·cases h
  ·rename_i h1 h2
   exact ⟨by simpa using h1,by omega,by omega⟩
theorem dcellL_64 (c:DCell):(dcellL c)[64]? = some (pbool c.bad):=by
 rw [dcellL,List.getElem?_append_right (by rw [secL_len];exact Nat.le_refl _),secL_len];rfl
theorem dC_flat (D:DM):dC D=D.cells.flatMap dcellL:=rfl
end
section
open Go.RowKit
variable {P:Program} {T:Tab} {σ:PS} {o:Oper} {i base:Nat} {ops:Array Oper} {ok:Nat→Nat→Bool} {rest:List (Nat×Oper)} {K:PS→Prop}
theorem PWops.ldSec {d id:Nat} {z:Nat} {l:List DCell} {x:Operand} {t:TypeId} {kd:TD} {zr:List PV} {es:List SK} (hg:pguard ops σ o=some true) (hd:o.dst=some d) (hop:o.op = .load t x) {off:Nat} (hx:pev σ x = .ptr id off) (ht:T.at t=some ⟨64,true,kd,zr,es⟩) (hb:σ.freeB (base+i)=true) {bs:List PV} (hbs:(σ.only (ok i)).b id=some bs) (hf:bs=l.flatMap dcellL) (ho:off=0+z * 65+0) (hl:z < l.length)
  (kn:PWops P T ops base ok rest K (σ.put d (psec (l.getD z default).s))):PWops P T ops base ok ((i,o) :: rest) K σ:=by
 subst ho
 subst hf
 refine PWops.ldBA hg hd hop hx ht hb hbs ?_ ?_ kn
 ·rw [flatMap_len dcellL_len]
  have:=Nat.mul_le_mul_right 65 (show z+1≤l.length from hl)
  omega
 ·have h1:=flatMap_row dcellL_len (getD_get default hl)
  have h2:((l.flatMap dcellL).drop (0+z * 65+0)).take 64=(((l.flatMap dcellL).drop (z * 65)).take 65).take 64:=by
   rw [List.take_take,show 0+z * 65+0=z * 65 by omega];rfl
  rw [h2,h1,dcellL,List.take_append_of_le_length (by rw [secL_len];exact Nat.le_refl _),List.take_of_length_le (by rw [secL_len];exact Nat.le_refl _),secL_bare]
end
section
open Go.RowKit
set_option maxRecDepth 10000 in
set_option maxHeartbeats 1000000 in
theorem dc_Read (D:DM) (i:Int) (hsz:D.cells.length≤1000000000) (hop:∀e∈D.op,e.2.2.length≤1000000000):DCalls 94 [pint i] D (.tup [psec (D.read i).1,pint (D.read i).2]) D:=by
 refine dcalls_of_pw Tryz.func94 rfl rfl (by exact lw) (by simp [pint,PV.ownB]) (Nat.le_of_ble_eq_true rfl) (.tup _ (by intro c hc;simp at hc;rcases hc with rfl|rfl;exact psec_low _;exact .val _)) ?_
 have hck:=dc_check D i 1000001 1000002 1000003 (by decide)
 have hgl:(D.get i).length≤1000000000:=by
  unfold DM.get
  cases h:opIdx i D.op 0 with
  |none=>simp
  |some j=>
   obtain ⟨-,h2,s,v,h3⟩:=opIdx_lt h
   simp only [Nat.sub_zero] at h3
   simp only [List.getD_eq_getElem?_getD,h3,Option.getD_some]
   exact hop _ (List.mem_of_getElem? h3)
 by_cases h1:D.check i=0
 ·obtain ⟨hd,hi0,hi1⟩:=check0 h1
  obtain ⟨b,hb⟩:=dget D i (ki:=⟨1,false, .int .i64,[.val (.int .i64 0)],[]⟩) (ei:=⟨1,false, .slice 103 64 64 (List.replicate 64 (.val (.int .u8 0))),[.nilsl],[]⟩) rfl rfl
  cases hx:opIdx i D.op 0 with
  |none=>
   have hg0:D.get i = []:=by simp [DM.get,hx]
   rw [hx] at hb
   simp only [if_true] at hb
   cases hbad:(D.cells.getD i.toNat default).bad with
   |true=>
    have hr:D.read i=(zeroSec,221):=by unfold DM.read DM.cell;rw [if_pos h1,hg0,hbad];rfl
    rw [hr]
    refine wk ?_
    exact RetH.mk (presult2 (pres_cell rfl rfl rfl (by (first|rfl|exact secL_len _|exact dcellL_len _|exact putL_len _|exact len_map (by assumption)|exact len_map rfl)) (by (first|rfl|exact secL_bare _|exact dcellL_bare _|exact putL_bare _|exact bare_map (fun _=>rfl) _))) rfl) (Weak.eq rfl) ⟨⟨_,rfl,WeakL.refl _⟩,⟨_,rfl,WeakL.refl _⟩,trivial⟩ ⟨⟨rfl,rfl⟩,trivial⟩
   |false=>
    have hr:D.read i=((D.cells.getD i.toNat default).s,0):=by unfold DM.read DM.cell;rw [if_pos h1,hg0,hbad];rfl
    rw [hr]
    refine wk ?_
    exact RetH.mk (presult2 (pres_cell rfl rfl rfl (by (first|rfl|exact secL_len _|exact dcellL_len _|exact putL_len _|exact len_map (by assumption)|exact len_map rfl)) (by (first|rfl|exact secL_bare _|exact dcellL_bare _|exact putL_bare _|exact bare_map (fun _=>rfl) _))) rfl) (Weak.eq rfl) ⟨⟨_,rfl,WeakL.refl _⟩,⟨_,rfl,WeakL.refl _⟩,trivial⟩ ⟨⟨rfl,rfl⟩,trivial⟩
  |some j=>
   rw [hx] at hb
   simp only [reduceCtorEq,if_false] at hb
   by_cases hl:0 < (D.get i).length
   ·have hr:D.read i=(lastS (D.get i),0):=by simp [DM.read,h1,hl]
    rw [hr]
    refine wk ?_
    exact RetH.mk (presult2 (pres_cell rfl rfl rfl (by (first|rfl|exact secL_len _|exact dcellL_len _|exact putL_len _|exact len_map (by assumption)|exact len_map rfl)) (by (first|rfl|exact secL_bare _|exact dcellL_bare _|exact putL_bare _|exact bare_map (fun _=>rfl) _))) rfl) (Weak.eq rfl) ⟨⟨_,rfl,WeakL.refl _⟩,⟨_,rfl,WeakL.refl _⟩,trivial⟩ ⟨⟨rfl,rfl⟩,trivial⟩
   ·have hl0:(D.get i).length=0:=by omega
    cases hbad:(D.cells.getD i.toNat default).bad with
    |true=>
     have hr:D.read i=(zeroSec,221):=by unfold DM.read DM.cell;rw [if_pos h1,if_neg hl,hbad];rfl
     rw [hr]
     refine wk ?_
     exact RetH.mk (presult2 (pres_cell rfl rfl rfl (by (first|rfl|exact secL_len _|exact dcellL_len _|exact putL_len _|exact len_map (by assumption)|exact len_map rfl)) (by (first|rfl|exact secL_bare _|exact dcellL_bare _|exact putL_bare _|exact bare_map (fun _=>rfl) _))) rfl) (Weak.eq rfl) ⟨⟨_,rfl,WeakL.refl _⟩,⟨_,rfl,WeakL.refl _⟩,trivial⟩ ⟨⟨rfl,rfl⟩,trivial⟩
    |false=>
     have hr:D.read i=((D.cells.getD i.toNat default).s,0):=by unfold DM.read DM.cell;rw [if_pos h1,if_neg hl,hbad];rfl
     rw [hr]
     refine wk ?_
     exact RetH.mk (presult2 (pres_cell rfl rfl rfl (by (first|rfl|exact secL_len _|exact dcellL_len _|exact putL_len _|exact len_map (by assumption)|exact len_map rfl)) (by (first|rfl|exact secL_bare _|exact dcellL_bare _|exact putL_bare _|exact bare_map (fun _=>rfl) _))) rfl) (Weak.eq rfl) ⟨⟨_,rfl,WeakL.refl _⟩,⟨_,rfl,WeakL.refl _⟩,trivial⟩ ⟨⟨rfl,rfl⟩,trivial⟩
 ·have hr:D.read i=(zeroSec,D.check i):=by simp [DM.read,h1]
  rw [hr]
  refine wk ?_
  exact RetH.mk (presult2 (pres_cell rfl rfl rfl (by (first|rfl|exact secL_len _|exact dcellL_len _|exact putL_len _|exact len_map (by assumption)|exact len_map rfl)) (by (first|rfl|exact secL_bare _|exact dcellL_bare _|exact putL_bare _|exact bare_map (fun _=>rfl) _))) rfl) (Weak.eq rfl) ⟨⟨_,rfl,WeakL.refl _⟩,⟨_,rfl,WeakL.refl _⟩,trivial⟩ ⟨⟨rfl,rfl⟩,trivial⟩
def DM.setc (D:DM) (i:Int) (c:DCell):DM:={ D with cells:=D.cells.set i.toNat c }
def DM.rot (D:DM) (i:Int):DM:=if D.check i=0 then D.setc i ⟨zeroSec,true⟩ else D
set_option maxRecDepth 10000 in
set_option maxHeartbeats 1000000 in
theorem dc_Rot (D:DM) (i:Int):DCalls 24 [pint i] D (pint (D.check i)) (D.rot i):=by
 refine dcalls_of_pw Tryz.func24 rfl rfl (by exact lw) (by simp [pint,PV.ownB]) (Nat.le_of_ble_eq_true rfl) (.val _) ?_
 have hck:=dc_check D i 1000001 1000002 1000003 (by decide)
 by_cases h1:D.check i=0
 ·obtain ⟨hd,hi0,hi1⟩:=check0 h1
  have hr:D.rot i=D.setc i ⟨zeroSec,true⟩:=by unfold DM.rot;rw [if_pos h1]
  rw [hr]
  refine wk ?_
  refine PWops.stBR (v:=⟨zeroSec,true⟩) rfl rfl rfl rfl rfl rfl rfl rfl rfl dcellL_len (by (first|omega|(dsimp only;omega))) rfl ?_
  refine wk ?_
  exact RetH.mk rfl (Weak.refl _) ⟨⟨_,rfl,WeakL.eq (by simp [dB,DM.setc])⟩,⟨_,rfl,WeakL.refl _⟩,trivial⟩ ⟨⟨rfl,rfl⟩,trivial⟩
 ·have hr:D.rot i=D:=by unfold DM.rot;rw [if_neg h1]
  rw [hr]
  refine wk ?_
  exact RetH.mk rfl (Weak.refl _) ⟨⟨_,rfl,WeakL.refl _⟩,⟨_,rfl,WeakL.refl _⟩,trivial⟩ ⟨⟨rfl,rfl⟩,trivial⟩
def addW (D:DM) (i:Int) (s:Sec):DM:=match opIdx i D.op 0 with
 |some j=>{ D with op:=D.op.set j ((D.op.getD j default).1,i,(D.op.getD j default).2.2 ++ [s]) }
 |none=>{ D with op:=D.op ++ [(D.clock,i,[s])],clock:=D.clock+1 }
def DM.write (D:DM) (i:Int) (s:Sec):Int×DM:=if D.check i=0 then (if D.step.1=0 then (0,addW D.step.2 i s) else D.step) else (D.check i,D)
theorem mfind_set {sk:SK} {kv:Value} : ∀{es:List (Nat×PV×PV)} {j n:Nat} {s s' : Nat} {kp c c' : PV},es[j]? = some (s,kp,c)→mfind sk kv (es.set j (s',kp,c')) n=mfind sk kv es n
 | [],j,n,s,s',kp,c,c',h=>by simp at h
 |(a,b,d) :: es,0,n,s,s',kp,c,c',h=>by
  simp at h
  obtain ⟨rfl,rfl,rfl⟩:=h
  simp only [List.set_cons_zero]
  cases b<;>rfl
 |(a,b,d) :: es,j+1,n,s,s',kp,c,c',h=>by
  simp at h
  have ih:=fun n=>mfind_set (sk:=sk) (kv:=kv) (n:=n) (s':=s') (c':=c') h
  simp only [List.set_cons_succ]
  cases b<;>simp only [mfind,ih]
theorem addW_some {D:DM} {i:Int} {s:Sec} {j:Nat} (hj:opIdx i D.op 0=some j) {ki:TyI} (hk:ki.kind = .int .i64) (e:Nat×Int×List Sec) (he:D.op[j]? = some e) :
  mput ki ((D.op.map dE).set j (e.1,pint e.2.1, .sl e.2.2.length 64 (e.2.2.flatMap secL) none)) D.clock (.int .i64 i) (.sl (e.2.2.length+1) 64 (e.2.2.flatMap secL ++ secL s) (some 103))=some (dM (addW D i s)):=by
 obtain ⟨-,h2,s',v,h3⟩:=opIdx_lt hj
 simp only [Nat.sub_zero] at h3
 rw [he] at h3
 simp only [Option.some.injEq] at h3
 subst h3
 have hj' : (D.op.map dE)[j]? = some (s',pint i,psecs v (some 103)):=by rw [List.getElem?_map,he];rfl
 have hl:j < (D.op.map dE).length:=(List.getElem?_eq_some_iff.1 hj').1
 unfold mput
 simp only [hk,keyOK,skT,decide_true,if_true]
 rw [mfind_set hj',opIdx_find,hj]
 simp only [List.getElem?_set,if_true,hl,List.set_set]
 unfold dM addW
 rw [hj]
 simp only [List.getD_eq_getElem?_getD,he,Option.getD_some,List.map_set,dE,psecs,List.length_append,List.length_cons,List.length_nil,List.flatMap_append,List.flatMap_cons,List.flatMap_nil,List.append_nil]
 rfl
theorem addW_none {D:DM} {i:Int} {s:Sec} (hj:opIdx i D.op 0=none) {ki:TyI} (hk:ki.kind = .int .i64) :
  mput ki (D.op.map dE) D.clock (.int .i64 i) (.sl 1 64 (secL s) (some 103))=some (dM (addW D i s)):=by
 unfold mput
 simp only [hk,keyOK,skT,decide_true,if_true]
 rw [opIdx_find,hj]
 unfold dM addW
 rw [hj]
 simp only [List.map_append,List.map_cons,List.map_nil,dE,psecs,List.length_cons,List.length_nil,List.flatMap_cons,List.flatMap_nil,List.append_nil]
 rfl
set_option maxRecDepth 10000 in
set_option maxHeartbeats 2000000 in
theorem dc_Write (D:DM) (i:Int) (s:Sec) (h:0≤D.steps∧D.steps≤1000000000 ∧ -1≤D.after) (h2:D.after≤9223372036854775807) (hop:∀e∈D.op,e.2.2.length≤1000000000):DCalls 87 [pint i,psec s] D (pint (D.write i s).1) (D.write i s).2:=by
 refine dcalls_of_pw Tryz.func87 rfl rfl (by intro p hp;simp at hp;rcases hp with rfl|rfl;exact .val _;exact psec_low _) (by simp [pint,psec,PV.ownB]) (Nat.le_of_ble_eq_true rfl) (.val _) ?_
 have hck:=dc_check D i 1000001 1000002 1000003 (by decide)
 have hst:=dc_step D h h2 1000001 1000002 1000003 (by decide)
 by_cases h1:D.check i=0
 ·obtain ⟨hd,hi0,hi1⟩:=check0 h1
  by_cases h3:D.step.1=0
  ·have hr:D.write i s=(0,addW D.step.2 i s):=by unfold DM.write;rw [if_pos h1,if_pos h3]
   rw [hr]
   have hsop:D.step.2.op=D.op:=by unfold DM.step;split<;>rfl
   refine wk ?_
   cases hx:opIdx i D.step.2.op 0 with
   |some j=>
    obtain ⟨-,h4,s',v,h5⟩:=opIdx_lt hx
    simp only [Nat.sub_zero] at h5
    have hvl:v.length≤1000000000:=hop (s',i,v) (by rw [hsop] at h5;exact List.mem_of_getElem? h5)
    have hf:mfind .int (.int .i64 i) (D.step.2.op.map dE) 0=some (some j):=by rw [opIdx_find,hx]
    have hj:(D.step.2.op.map dE)[j]? = some (s',pint i, .sl v.length 64 (v.flatMap secL) (some 103)):=by rw [List.getElem?_map,h5];rfl
    refine PWops.lkpO rfl rfl rfl rfl rfl rfl rfl rfl rfl rfl rfl rfl rfl hf hj ?_
    refine wk ?_
    refine PWops.mputO rfl rfl rfl rfl rfl rfl rfl rfl rfl rfl rfl (addW_some hx rfl (s',i,v) h5) ?_
    refine wk ?_
    exact RetH.mk rfl (Weak.eq (by show pint D.step.1=_;rw [h3])) ⟨⟨_,rfl,WeakL.eq (by simp [dB,addW,hx])⟩,⟨_,rfl,WeakL.eq (by simp [dC,addW,hx])⟩,trivial⟩ ⟨⟨rfl,rfl⟩,trivial⟩
   |none=>
    obtain ⟨b,hb⟩:=dget D.step.2 i (ki:=⟨1,false, .int .i64,[.val (.int .i64 0)],[]⟩) (ei:=⟨1,false, .slice 103 64 64 (List.replicate 64 (.val (.int .u8 0))),[.nilsl],[]⟩) rfl rfl
    rw [hx] at hb
    simp only [if_true] at hb
    refine wk ?_
    refine PWops.mputO rfl rfl rfl rfl rfl rfl rfl rfl rfl rfl rfl (addW_none hx rfl) ?_
    refine wk ?_
    exact RetH.mk rfl (Weak.eq (by show pint D.step.1=_;rw [h3])) ⟨⟨_,rfl,WeakL.eq (by simp [dB,addW,hx])⟩,⟨_,rfl,WeakL.eq (by simp [dC,addW,hx])⟩,trivial⟩ ⟨⟨rfl,rfl⟩,trivial⟩
  ·have hr:D.write i s=D.step:=by unfold DM.write;rw [if_pos h1,if_neg h3]
   rw [hr]
   refine wk ?_
   exact RetH.mk rfl (Weak.refl _) ⟨⟨_,rfl,WeakL.refl _⟩,⟨_,rfl,WeakL.refl _⟩,trivial⟩ ⟨⟨rfl,rfl⟩,trivial⟩
 ·have hr:D.write i s=(D.check i,D):=by unfold DM.write;rw [if_neg h1]
  rw [hr]
  refine wk ?_
  exact RetH.mk rfl (Weak.refl _) ⟨⟨_,rfl,WeakL.refl _⟩,⟨_,rfl,WeakL.refl _⟩,trivial⟩ ⟨⟨rfl,rfl⟩,trivial⟩
theorem wrap_u8 (z:Int):0≤IntKind.u8.wrap z∧IntKind.u8.wrap z < 256:=by
 have h:IntKind.u8.wrap z=z % 256:=rfl
 rw [h];omega
end
section
open Go.RowKit
variable {P:Program} {T:Tab} {σ:PS} {o:Oper} {i base:Nat} {ops:Array Oper} {ok:Nat→Nat→Bool} {rest:List (Nat×Oper)} {K:PS→Prop}
theorem PWops.bldA {d f off n:Nat} {cs out:List PV} {x:Operand} {t:TypeId} {ti:TyI} {l:List (Nat×Nat×Bool)} (hg:pguard ops σ o=some true) (hd:o.dst=some d) (hop:o.op = .build t #[(f,x)]) (hx:pev σ x = .agg cs) (ht:T.at t=some ti) (hk:ti.kind = .struct l) (hf:(l[f]?).map (fun x=>(x.1,x.2.1))=some (off,n)) (hb:σ.freeB (base+i)=true) (hl:cs.length=n) (hz:Nat.ble (off+n) ti.zero.length=true) (ho:cs.all PV.one=true) (hr:cs.map PV.bare=cs) (hout:splice ti.zero off cs=out)
  (kn:PWops P T ops base ok rest K (σ.put d (.agg out))):PWops P T ops base ok ((i,o) :: rest) K σ:=by
 refine PWops.valEq hg hd (p:=.agg out) ?_ rfl hb kn
 have hz':=Nat.le_of_ble_eq_true hz
 have hs:=splF_eq ti.zero off cs (by omega)
 rw [hout] at hs
 simp only [hop,presE,pvalA,pval,ht,pbuild,hk,List.map_cons,List.map_nil,pev_only,hx,pfill,hf,pcells,ho,if_true,hr,hl,hz',and_self,hs,Option.map_some]
theorem PWops.rng {d mid clock kt et:Nat} {x:Operand} {t:TypeId} {es:List (Nat×PV×PV)} {ti:TyI} (hg:pguard ops σ o=some true) (hd:o.dst=some d) (hop:o.op = .range t x) (hx:pev σ x = .mref mid) (hm:(σ.only (ok i)).m mid=some (.map es clock)) (ht:T.at t=some ti) (hk:ti.kind = .map kt et) (hb:σ.freeB (base+i)=true)
  (kn:PWops P T ops base ok rest K ((σ.setm (base+i) (.iter mid clock [] clock)).put d (.ptr (base+i) 0))):PWops P T ops base ok ((i,o) :: rest) K σ:=by
 refine PWops.stepM hg (E:=⟨.ptr (base+i) 0,[],none,[(base+i, .iter mid clock [] clock)]⟩) ?_ hb (by rw [hd];exact kn)
 have h1:(σ.only (ok i)).b (base+i)=none∧(σ.only (ok i)).m (base+i)=none:=by
  obtain ⟨q1,q2⟩:=PS.freeB_spec hb
  simp only [PS.only,q1,q2]
  constructor<;>split<;>rfl
 simp only [hop,presM,ht,pev_only,hx,mapOf,hm,h1.1,h1.2,hk]
theorem PWops.ent {d it mid since last s clock:Nat} {x:Operand} {seen:List Nat} {es:List (Nat×PV×PV)} {e:Nat×PV×PV} (hg:pguard ops σ o=some true) (hd:o.dst=some d) (hop:o.op = .entry x) (hx:pev σ x = .ptr it 0) (hi:(σ.only (ok i)).m it=some (.iter mid since (seen ++ [s]) last)) (hm:(σ.only (ok i)).m mid=some (.map es clock)) (hcl:clock=last) (hf:es.find? (fun e=>e.1 == s)=some e) (hb:σ.freeB (base+i)=true)
  (kn:PWops P T ops base ok rest K (σ.put d (.tup [e.2.1.bare,e.2.2.bare]))):PWops P T ops base ok ((i,o) :: rest) K σ:=by
 refine PWops.valEq hg hd (p:=.tup [e.2.1.bare,e.2.2.bare]) ?_ rfl hb kn
 simp only [hop,presE,pvalA,pval,pvalX,pentryAt,pev_only,hx,hi,hm,hcl,if_true,List.getLast?_concat,hf,Option.map_some]
theorem find_stamp:∀{es:List (Nat×PV×PV)} {e:Nat×PV×PV},(es.map (·.1)).Nodup→e∈es→es.find? (fun x=>x.1 == e.1)=some e
 | [],e,hn,h=>by simp at h
 |x :: es,e,hn,h=>by
  simp only [List.map_cons,List.nodup_cons] at hn
  rcases List.mem_cons.1 h with rfl|h
  ·simp
  ·have hne:(x.1 == e.1)=false:=by
    rw [beq_eq_false_iff_ne]
    intro e1
    exact hn.1 (by rw [e1];exact List.mem_map_of_mem h)
   rw [List.find?_cons,hne]
   exact find_stamp hn.2 h
end
section
open Go.RowKit
def opFind (i:Int):List (Nat×Int×List Sec)→Option (List Sec)
 | []=>none
 |(_,k,l) :: r=>if i=k then some l else opFind i r
def synced (cells:List DCell) (op:List (Nat×Int×List Sec)):List DCell:=(List.range cells.length).map fun j=>match opFind (j:Nat) op with
 |some l=>⟨lastS l,false⟩
 |none=>cells.getD j default
def DM.synced (D:DM):DM:={ D with cells:=Go.Proofs.YtmeekbjhpidcgaaGreatDoor.synced D.cells D.op,op := [] }
def DM.sync (D:DM):Int×DM:=if D.check 0=0 then (if D.step.1=0 then (0,D.step.2.synced) else D.step) else (D.check 0,D)
def opOK (n:Nat) (op:List (Nat×Int×List Sec)):Prop:=(op.map (·.2.1)).Nodup∧∀e∈op,0≤e.2.1∧e.2.1 < n∧0 < e.2.2.length∧e.2.2.length≤1000000000
theorem opIdx_mem {i:Int} : ∀{op:List (Nat×Int×List Sec)} {n j:Nat} {s:Nat} {l:List Sec},(op.map (·.2.1)).Nodup→op[j]? = some (s,i,l)→opIdx i op n=some (n+j)
 | [],n,j,s,l,hn,h=>by simp at h
 |(a,k,b) :: op,n,0,s,l,hn,h=>by
  simp at h
  obtain ⟨rfl,rfl,rfl⟩:=h
  simp [opIdx]
 |(a,k,b) :: op,n,j+1,s,l,hn,h=>by
  simp only [List.map_cons,List.nodup_cons] at hn
  simp only [List.getElem?_cons_succ] at h
  have hne:i≠k:=by
   rintro rfl
   exact hn.1 (List.mem_map.2 ⟨_,List.mem_of_getElem? h,rfl⟩)
  simp only [opIdx,if_neg hne]
  rw [opIdx_mem hn.2 h]
  congr 1;omega
theorem erase_map {α β:Type} (f:α→β):∀(l:List α) (j:Nat),(l.map f).eraseIdx j=(l.eraseIdx j).map f
 | [],j=>by simp
 |a :: l,0=>by simp
 |a :: l,j+1=>by simp [erase_map f l j]
theorem splice_sec (s:Sec) (b:Bool):splice (List.replicate 64 (.val (.int .u8 0)) ++ [pbool b]) 0 (secL s)=dcellL ⟨s,b⟩:=by
 unfold splice
 rw [List.take_zero,List.nil_append,Nat.zero_add,secL_len]
 rfl
theorem dcellL_cells (c:DCell):pcells (.agg (dcellL c))=some (dcellL c):=by simp only [pcells,dcellL_one,if_true,dcellL_bare]
theorem opFind_none {i:Int} : ∀{op:List (Nat×Int×List Sec)},i∉op.map (·.2.1)→opFind i op=none
 | [],h=>rfl
 |(a,k,b) :: op,h=>by
  simp only [List.map_cons,List.mem_cons,not_or] at h
  simp only [opFind,if_neg h.1]
  exact opFind_none h.2
theorem opFind_erase {i k:Int} : ∀{op:List (Nat×Int×List Sec)} {j s:Nat} {l:List Sec},(op.map (·.2.1)).Nodup→op[j]? = some (s,k,l)→opFind i (op.eraseIdx j)=if i=k then none else opFind i op
 | [],j,s,l,hn,h=>by simp at h
 |(a,c,b) :: op,0,s,l,hn,h=>by
  simp at h
  obtain ⟨rfl,rfl,rfl⟩:=h
  simp only [List.map_cons,List.nodup_cons] at hn
  simp only [List.eraseIdx_cons_zero,opFind]
  split
  ·rename_i e;subst e;exact opFind_none hn.1
  ·rfl
 |(a,c,b) :: op,j+1,s,l,hn,h=>by
  simp only [List.map_cons,List.nodup_cons] at hn
  simp only [List.getElem?_cons_succ] at h
  have hne:k≠c:=by
   rintro rfl
   exact hn.1 (List.mem_map.2 ⟨_,List.mem_of_getElem? h,rfl⟩)
  simp only [List.eraseIdx_cons_succ,opFind,opFind_erase hn.2 h]
  by_cases e:i=c
  ·subst e;rw [if_pos rfl,if_pos rfl,if_neg (fun e=>hne e.symm)]
  ·rw [if_neg e,if_neg e]
theorem opFind_at {k:Int} : ∀{op:List (Nat×Int×List Sec)} {j s:Nat} {l:List Sec},(op.map (·.2.1)).Nodup→op[j]? = some (s,k,l)→opFind k op=some l
 | [],j,s,l,hn,h=>by simp at h
 |(a,c,b) :: op,0,s,l,hn,h=>by
  simp at h
  obtain ⟨rfl,rfl,rfl⟩:=h
  simp [opFind]
 |(a,c,b) :: op,j+1,s,l,hn,h=>by
  simp only [List.map_cons,List.nodup_cons] at hn
  simp only [List.getElem?_cons_succ] at h
  have hne:k≠c:=by
   rintro rfl
   exact hn.1 (List.mem_map.2 ⟨_,List.mem_of_getElem? h,rfl⟩)
  simp only [opFind,if_neg hne]
  exact opFind_at hn.2 h
theorem synced_step {cells:List DCell} {op:List (Nat×Int×List Sec)} {j s:Nat} {k:Int} {l:List Sec} (hn:(op.map (·.2.1)).Nodup) (h:op[j]? = some (s,k,l)) (h0:0≤k) (h1:k < cells.length):synced (cells.set k.toNat ⟨lastS l,false⟩) (op.eraseIdx j)=synced cells op:=by
 unfold synced
 rw [List.length_set]
 refine List.map_congr_left fun q hq=>?_
 rw [opFind_erase hn h]
 by_cases e:(q:Int)=k
 ·subst e
  rw [if_pos rfl,opFind_at hn h]
  have:q < cells.length:=by omega
  simp [this]
 ·rw [if_neg e]
  have:k.toNat≠q:=by omega
  simp [List.getElem?_set_ne this]
theorem synced_nil (cells:List DCell):synced cells []=cells:=by
 unfold synced
 apply List.ext_getElem?
 intro q
 simp only [opFind,List.getElem?_map]
 by_cases h:q < cells.length
 ·simp [h]
 ·simp [h]
theorem opOK_erase {n:Nat} {op:List (Nat×Int×List Sec)} (h:opOK n op) (j:Nat):opOK n (op.eraseIdx j):=
 ⟨h.1.sublist ((List.eraseIdx_sublist ..).map _),fun e he=>h.2 e (List.mem_of_mem_eraseIdx he)⟩
theorem nodup_erase_at {op:List Nat} {j x:Nat} (hn:op.Nodup) (h:op[j]? = some x):x∉op.eraseIdx j:=by
 induction op generalizing j with
 |nil=>simp at h
 |cons a op ih=>
  cases j with
  |zero=>simp at h;subst h;simpa using (List.nodup_cons.1 hn).1
  |succ j=>
   simp only [List.getElem?_cons_succ] at h
   simp only [List.eraseIdx_cons_succ,List.mem_cons,not_or]
   refine ⟨?_,ih (List.nodup_cons.1 hn).2 h⟩
   rintro rfl
   exact (List.nodup_cons.1 hn).1 (List.mem_of_getElem? h)
set_option maxRecDepth 10000 in
set_option maxHeartbeats 2000000 in
theorem dc_Sync (D:DM) (h:0≤D.steps∧D.steps≤1000000000 ∧ -1≤D.after) (h2:D.after≤9223372036854775807) (hsz:D.cells.length≤1000000000) (hop:opOK D.cells.length D.op):DCalls 61 [] D (pint D.sync.1) D.sync.2:=by
 refine dcalls_of_pw Tryz.func61 rfl rfl (by simp) (by simp) (Nat.le_of_ble_eq_true rfl) (.val _) ?_
 have hck:=dc_check D 0 1000001 1000002 1000003 (by decide)
 have hst:=dc_step D h h2 1000001 1000002 1000003 (by decide)
 by_cases h1:D.check 0=0
 ·obtain ⟨hd,hi0,hi1⟩:=check0 h1
  by_cases h3:D.step.1=0
  ·have hr:D.sync=(0,D.step.2.synced):=by unfold DM.sync;rw [if_pos h1,if_pos h3]
   rw [hr]
   have hsop:D.step.2.op=D.op:=by unfold DM.step;split<;>rfl
   have hscl:D.step.2.cells=D.cells:=by unfold DM.step;split<;>rfl
   generalize hD1:D.step.2=D1 at hst hsop hscl ⊢
   rw [←hsop,←hscl] at hop
   rw [←hscl] at hi1 hsz
   refine wk ?_
   refine PWops.rng rfl rfl rfl rfl rfl rfl rfl rfl ?_
   refine wk ?_
   refine PW.stamps (id:=1000003) rfl (fun hs=>?_)
   refine PW.loop (fun p:DM×List Nat=>((((((bot.setb 1000001 (dB 1000002 1000003 p.1)).setb 1000002 (dC p.1)).setm 1000003 (dM p.1)).setm 6004 (.iter 1000003 D1.clock p.2 D1.clock)).put 0 (.ptr 1000001 0)).put 2 (pint 0)).put 19 (.ptr 6004 0))
    (fun p=>p.1.cells.length=D1.cells.length∧p.1.clock=D1.clock∧p.1.synced=D1.synced∧opOK D1.cells.length p.1.op∧(∀e∈p.1.op,e.1∉p.2)∧(p.1.op.map (·.1)).Nodup∧∀e∈p.1.op,e.1 < D1.clock) (fun p=>p.1.op.length) (D1,[]) ?_ ?_ ?_
   ·refine ⟨rfl,rfl,rfl,hop,by simp,?_,fun e he=>?_⟩
    ·have:=hs.1
     rw [List.map_map] at this;exact this
    ·exact hs.2 _ (List.mem_map_of_mem he)
   ·have hl:=dC_low D1
    have hlm:=dM_low D1
    exact sb
   ·rintro ⟨⟨cells,op,clock,steps,after,dead⟩,seen⟩ ⟨i1,i2,i3,i4,i5,i6,i7⟩
    dsimp only at i1 i2 i3 i4 i5 i6 i7
    subst i2
    refine PW.seq ?_
    refine PWnext typeTab_ok (it:=6004) (mid:=1000003) (es:=op.map dE) (clock:=D1.clock) rfl rfl rfl (by decide) rfl ?_ ?_ ?_
    ·cases hsn:op with
     |nil=>exact .inr (.inl rfl)
     |cons e r=>
      refine .inr (.inr ⟨dE e,by simp,?_⟩)
      exact i7 e (by rw [hsn];simp)
    ·intro hno
     have hn0:op = []:=by
      cases hsn:op with
      |nil=>rfl
      |cons e r=>
       exfalso
       have hm:e∈op:=by rw [hsn];simp
       exact i5 e hm (hno (dE e) (List.mem_map_of_mem hm) (i7 e hm))
     refine wk ?_
     have hD:D1.synced=⟨cells,[],D1.clock,steps,after,dead⟩:=by
      rw [←i3,hn0]
      unfold DM.synced
      simp only [synced_nil]
     rw [hD]
     exact RetH.mk rfl (Weak.refl _) ⟨⟨_,rfl,WeakL.refl _⟩,⟨_,rfl,WeakL.refl _⟩,trivial⟩ ⟨⟨rfl,by subst hn0;rfl⟩,trivial⟩
    ·intro e' he' hns
     obtain ⟨e,he,rfl⟩:=List.mem_map.1 he'
     obtain ⟨j,hj⟩:=List.getElem?_of_mem he
     obtain ⟨q1,q2,q3,q4⟩:=i4.2 e he
     have hfs:=find_stamp (es:=op.map dE) (e:=dE e) (by rw [List.map_map];exact i6) he'
     have hix:opIdx e.2.1 op 0=some j:=by rw [opIdx_mem i4.1 hj,Nat.zero_add]
     have hll:(e.2.2:List Sec).length≤1000000000:=q4
     refine wk ?_
     refine PWops.ent (seen:=seen) (s:=e.1) rfl rfl rfl rfl rfl rfl rfl hfs rfl ?_
     refine wk ?_
     refine PWops.bldA (cs:=secL (lastS e.2.2)) (out:=dcellL ⟨lastS e.2.2,false⟩) rfl rfl rfl rfl rfl rfl rfl rfl (secL_len _) rfl (secL_one _) (secL_bare _) (splice_sec _ _) ?_
     refine wk ?_
     refine PWops.stBR (v:=⟨lastS e.2.2,false⟩) rfl rfl rfl rfl rfl (by exact dcellL_cells ⟨lastS e.2.2,false⟩) rfl rfl rfl dcellL_len (by (first|omega|(dsimp only;omega))) rfl ?_
     refine wk ?_
     have hdel:mdel ⟨1,false, .int .i64,[.val (.int .i64 0)],[]⟩ (op.map dE) D1.clock (.int .i64 e.2.1)=some (.map ((op.eraseIdx j).map dE) D1.clock):=by
      unfold mdel
      simp only [keyOK,skT,decide_true,if_true]
      rw [opIdx_find,hix]
      simp only [erase_map]
     refine PWops.mdel rfl rfl rfl rfl rfl rfl rfl rfl rfl rfl hdel ?_
     refine wk ?_
     refine loopP (⟨cells.set e.2.1.toNat ⟨lastS e.2.2,false⟩,op.eraseIdx j,D1.clock,steps,after,dead⟩,seen ++ [e.1]) ⟨?_,rfl,?_,opOK_erase i4 j,?_,?_,?_⟩ ?_ ?_
     ·show (cells.set _ _).length=_
      rw [List.length_set];exact i1
     ·rw [←i3]
      unfold DM.synced
      simp only [synced_step i4.1 hj q1 (by rw [i1];exact q2)]
     ·intro x hx
      have hx':=List.mem_of_mem_eraseIdx hx
      rw [List.mem_append,List.mem_singleton,not_or]
      refine ⟨i5 x hx',fun e1=>?_⟩
      have h5:(op.map (·.1))[j]? = some e.1:=by rw [List.getElem?_map,hj];rfl
      have h6:=nodup_erase_at i6 h5
      rw [erase_map] at h6
      exact h6 (by rw [←e1];exact List.mem_map_of_mem hx)
     ·show ((op.eraseIdx j).map _).Nodup
      exact i6.sublist ((List.eraseIdx_sublist ..).map _)
     ·exact fun x hx=>i7 x (List.mem_of_mem_eraseIdx hx)
     ·show (op.eraseIdx j).length < op.length
      have:=(List.getElem?_eq_some_iff.1 hj).1
      rw [List.length_eraseIdx]
      split<;>omega
     ·have hdB:dB 1000002 1000003 ⟨cells.set e.2.1.toNat ⟨lastS e.2.2,false⟩,op.eraseIdx j,D1.clock,steps,after,dead⟩=dB 1000002 1000003 ⟨cells,op,D1.clock,steps,after,dead⟩:=by simp [dB]
      have hl:=dC_low ⟨cells.set e.2.1.toNat ⟨lastS e.2.2,false⟩,op.eraseIdx j,D1.clock,steps,after,dead⟩
      have hlm:=dM_low ⟨cells.set e.2.1.toNat ⟨lastS e.2.2,false⟩,op.eraseIdx j,D1.clock,steps,after,dead⟩
      dsimp only
      rw [hdB]
      exact sb
  ·have hr:D.sync=D.step:=by unfold DM.sync;rw [if_pos h1,if_neg h3]
   rw [hr]
   refine wk ?_
   exact RetH.mk rfl (Weak.refl _) ⟨⟨_,rfl,WeakL.refl _⟩,⟨_,rfl,WeakL.refl _⟩,trivial⟩ ⟨⟨rfl,rfl⟩,trivial⟩
 ·have hr:D.sync=(D.check 0,D):=by unfold DM.sync;rw [if_neg h1]
  rw [hr]
  refine wk ?_
  exact RetH.mk rfl (Weak.refl _) ⟨⟨_,rfl,WeakL.refl _⟩,⟨_,rfl,WeakL.refl _⟩,trivial⟩ ⟨⟨rfl,rfl⟩,trivial⟩
end
section
open Go.RowKit
variable {P:Program} {T:Tab} {σ:PS} {o:Oper} {i base:Nat} {ops:Array Oper} {ok:Nat→Nat→Bool} {rest:List (Nat×Oper)} {K:PS→Prop}
theorem PWops.mkS {d e k by_:Nat} {x:Int} {kx ky:IntKind} {out zr:List PV} {X Y:Operand} {t:TypeId} {ti:TyI} (hg:pguard ops σ o=some true) (hd:o.dst=some d) (hop:o.op = .makeSlice t X Y) (hx:pev σ X = .val (.int kx x)) (hy:pev σ Y = .val (.int ky x)) (ht:T.at t=some ti) (hk:ti.kind = .slice e k by_ zr) (hb:σ.freeB (base+i)=true) (hc:0≤x∧(by_:Int) * x≤281474976710656∧x≤9223372036854775807) (hout:(List.replicate x.toNat zr).flatten=out)
  (kn:PWops P T ops base ok rest K ((σ.setb (base+i) out).put d (.msl (base+i) 0 x.toNat k))):PWops P T ops base ok ((i,o) :: rest) K σ:=by
 refine PWops.step hg (E:=⟨.msl (base+i) 0 x.toNat k,[(base+i,out)],none,[]⟩) ?_ hb (by rw [hd];exact kn)
 have h1:(σ.only (ok i)).b (base+i)=none∧(σ.only (ok i)).m (base+i)=none:=by
  obtain ⟨q1,q2⟩:=PS.freeB_spec hb
  simp only [PS.only,q1,q2]
  constructor<;>split<;>rfl
 have h2:0≤x∧x=x∧(by_:Int) * x≤281474976710656∧x≤9223372036854775807:=⟨hc.1,rfl,hc.2.1,hc.2.2⟩
 have h3:pmake k by_ zr x x=some (x.toNat,out):=by unfold pmake;rw [if_pos h2,hout]
 simp only [hop,presE,ht,pev_only,hx,hy,h1.1,h1.2,hk,h3]
theorem PWops.mkM {d:Nat} {t:TypeId} (hg:pguard ops σ o=some true) (hd:o.dst=some d) (hop:o.op = .makeMap t none) (hb:σ.freeB (base+i)=true)
  (kn:PWops P T ops base ok rest K ((σ.setm (base+i) (.map [] 0)).put d (.mref (base+i)))):PWops P T ops base ok ((i,o) :: rest) K σ:=by
 refine PWops.stepM hg (E:=⟨.mref (base+i),[],none,[(base+i, .map [] 0)]⟩) ?_ hb (by rw [hd];exact kn)
 have h1:(σ.only (ok i)).b (base+i)=none∧(σ.only (ok i)).m (base+i)=none:=by
  obtain ⟨q1,q2⟩:=PS.freeB_spec hb
  simp only [PS.only,q1,q2]
  constructor<;>split<;>rfl
 simp only [hop,presM,h1.1,h1.2]
end
section
open Go.RowKit
def newD (n:Nat):DM:=⟨List.replicate n ⟨zeroSec,false⟩,[],0,0,-1,false⟩
theorem newD_cells (n:Nat):(List.replicate n (List.replicate 64 (.val (.int .u8 0)) ++ [pbool false])).flatten=dC (newD n):=by
 unfold dC newD
 have:(List.replicate 64 (.val (.int .u8 0)) ++ [pbool false]:List PV)=dcellL ⟨zeroSec,false⟩:=rfl
 rw [this]
 generalize (⟨zeroSec,false⟩:DCell)=z
 show _=(List.replicate n z).flatMap dcellL
 induction n with
 |zero=>rfl
 |succ n ih=>rw [List.replicate_succ,List.replicate_succ,List.flatten_cons,List.flatMap_cons,ih]
set_option maxRecDepth 10000 in
set_option maxHeartbeats 1000000 in
theorem dc_New1 (n:Int) (h:1≤n∧n≤65536):HCalls Tryz.prog 21 [pint n] [] [] (.ptr 3004 0) (dG 3004 3001 3002 (newD n.toNat)) (dMs 3002 (newD n.toNat)):=by
 refine hcalls_of_pw typeTab_ok Tryz.func21 rfl rfl (by simp [pint,PV.ownB]) (Nat.le_of_ble_eq_true rfl) (by simp [ResIds]) (by simp [ResIds]) ⟨by intro p hp;simp at hp;subst hp;exact .val _,by simp,by simp, .ptr _ _ (by simp [ResIds,dG]),fun x hx=>?_,fun x hx=>?_,by simp,by simp⟩ ?_
 ·simp only [dG,List.mem_cons,List.not_mem_nil,or_false] at hx
  rcases hx with rfl|rfl
  ·exact dB_lowI (by simp [ResIds,dG]) (by simp [ResIds,dMs]) _
  ·exact fun p hp=>(dC_low _ p hp).lowI
 ·simp only [dMs,List.mem_cons,List.not_mem_nil,or_false] at hx
  subst hx
  exact fun e he=>⟨(dM_low _ e he).1.lowI,(dM_low _ e he).2.lowI⟩
 refine wk ?_
 refine PWops.mkS (out:=dC (newD n.toNat)) rfl rfl rfl rfl rfl rfl rfl rfl ?_ (newD_cells _) ?_
 ·refine ⟨by omega,?_,by omega⟩
  omega
 refine wk ?_
 refine PWops.mkM rfl rfl rfl rfl ?_
 refine wk ?_
 exact RetH.mk rfl (Weak.refl _) ⟨⟨_,rfl,WeakL.eq (by simp [dB,newD];exact ⟨rfl,rfl,rfl⟩)⟩,⟨_,rfl,WeakL.refl _⟩,trivial⟩ ⟨⟨rfl,rfl⟩,trivial⟩
def newIds (d c m i:Nat):Nat:=if i=3004 then d else if i=3001 then c else if i=3002 then m else i
theorem dc_New (n:Int) (h:1≤n∧n≤65536) (d c m:Nat) (hnd:(ids3 d c m).Nodup):HCalls Tryz.prog 21 [pint n] [] [] (.ptr d 0) (dG d c m (newD n.toNat)) (dMs m (newD n.toNat)):=by
 have r3:ResIds (dG 3004 3001 3002 (newD n.toNat)) (dMs 3002 (newD n.toNat)) = [3004,3001,3002]:=rfl
 refine (dc_New1 n h).ren (newIds d c m) (by simp) (by simp) ?_ (.cons (.low _ (.val _)) .nil) .nil .nil (.ptr 3004 0 (by rw [r3];decide)) (.cons 3004 _ _ _ _ (.cons (.msl 3001 0 _ _ (by rw [r3];decide)) (.cons (.mref 3002 (by rw [r3];decide)) (.cons (.low _ (.val _)) (.cons (.low _ (.val _)) (.cons (.low _ (.val _)) .nil))))) (.cons 3001 _ _ _ _ (.low (dC_low _)) .nil)) (.cons 3002 _ _ _ _ (.low (dM_low _)) .nil)
 rw [r3]
 simp only [ids3,List.nodup_cons,List.mem_cons,List.not_mem_nil,or_false,not_or,List.nodup_nil,and_true,not_false_eq_true] at hnd
 obtain ⟨⟨n1,n2⟩,n3⟩:=hnd
 intro i hi j hj e
 simp only [List.mem_cons,List.not_mem_nil,or_false] at hi hj
 rcases hi with rfl|rfl|rfl<;>rcases hj with rfl|rfl|rfl<;>simp [newIds] at e ⊢ <;> first|exact absurd e n1|exact absurd e n2|exact absurd e n3|exact absurd e.symm n1|exact absurd e.symm n2|exact absurd e.symm n3
structure OkD (n:Nat) (k:Nat) (D:DM):Prop where
 dead:D.dead=false
 after:D.after = -1
 len:D.cells.length=n
 steps:0≤D.steps∧D.steps≤k
 op:opOK n D.op
 room:∀e∈D.op,e.2.2.length≤k
theorem OkD.mono {n k k' : Nat} {D:DM} (h:OkD n k D) (hk:k≤k'):OkD n k' D:=⟨h.dead,h.after,h.len,by have:=h.steps;omega,h.op,fun e he=>by have:=h.room e he;omega⟩
theorem OkD.check {n k:Nat} {D:DM} (h:OkD n k D) (i:Int):D.check i=if i < 0∨(n:Int)≤i then 1 else 0:=by
 unfold DM.check
 rw [h.dead,h.len];rfl
theorem OkD.check0 {n k:Nat} {D:DM} (h:OkD n k D) {i:Int} (h0:0≤i) (h1:i < n):D.check i=0:=by rw [h.check,if_neg (by omega)]
theorem OkD.step {n k:Nat} {D:DM} (h:OkD n k D):D.step=(0,{ D with steps:=D.steps+1 }):=by
 unfold DM.step
 rw [h.after]
 simp
theorem opIdx_none {i:Int} : ∀{op:List (Nat×Int×List Sec)} {n:Nat},opIdx i op n=none→i∉op.map (·.2.1)
 | [],n,h=>by simp
 |(a,k,b) :: op,n,h=>by
  simp only [opIdx] at h
  split at h
  ·cases h
  ·rename_i hne
   simp only [List.map_cons,List.mem_cons,not_or]
   exact ⟨hne,opIdx_none h⟩
theorem opFind_idx {i:Int} : ∀(op:List (Nat×Int×List Sec)) (n:Nat),opFind i op=match opIdx i op n with
  |some j=>some (op.getD (j - n) default).2.2
  |none=>none
 | [],n=>rfl
 |(a,k,b) :: op,n=>by
  simp only [opFind,opIdx]
  by_cases h:i=k
  ·simp [h]
  ·rw [if_neg h,if_neg h,opFind_idx op (n+1)]
   cases hj:opIdx i op (n+1) with
   |none=>rfl
   |some j=>
    have:=(opIdx_lt hj).1
    simp only
    rw [show j - n=(j - (n+1))+1 by omega];rfl
theorem get_find (D:DM) (i:Int):D.get i=(opFind i D.op).getD []:=by
 rw [DM.get,opFind_idx D.op 0]
 cases opIdx i D.op 0<;>rfl
theorem opFind_append {i:Int} : ∀{op:List (Nat×Int×List Sec)} {e:Nat×Int×List Sec},opFind i (op ++ [e])=match opFind i op with
  |some l=>some l
  |none=>if i=e.2.1 then some e.2.2 else none
 | [],(a,k,b)=>rfl
 |(a,k,b) :: op,e=>by
  simp only [List.cons_append,opFind]
  split
  ·rfl
  ·exact opFind_append
theorem opFind_set {i c:Int} : ∀{op:List (Nat×Int×List Sec)} {j s:Nat} {l l' : List Sec},(op.map (·.2.1)).Nodup→op[j]? = some (s,c,l)→opFind i (op.set j (s,c,l'))=if i=c then some l' else opFind i op
 | [],j,s,l,l',hn,h=>by simp at h
 |(a,k,b) :: op,0,s,l,l',hn,h=>by
  simp at h
  obtain ⟨rfl,rfl,rfl⟩:=h
  simp only [List.set_cons_zero,opFind]
  split<;>rfl
 |(a,k,b) :: op,j+1,s,l,l',hn,h=>by
  simp only [List.map_cons,List.nodup_cons] at hn
  simp only [List.getElem?_cons_succ] at h
  have hne:c≠k:=by
   rintro rfl
   exact hn.1 (List.mem_map.2 ⟨_,List.mem_of_getElem? h,rfl⟩)
  simp only [List.set_cons_succ,opFind,opFind_set hn.2 h]
  by_cases e:i=k
  ·subst e;rw [if_pos rfl,if_neg (fun e=>hne e.symm),if_pos rfl]
  ·rw [if_neg e,if_neg e]
theorem get_addW {n k:Nat} {D:DM} (h:OkD n k D) (i:Int) (s:Sec) (q:Int):(addW D i s).get q=if q=i then D.get i ++ [s] else D.get q:=by
 rw [get_find,get_find,get_find]
 unfold addW
 cases hj:opIdx i D.op 0 with
 |none=>
  simp only
  rw [opFind_append,opFind_none (opIdx_none hj)]
  by_cases e:q=i
  ·subst e;rw [opFind_none (opIdx_none hj)];simp
  ·simp only [if_neg e]
   cases opFind q D.op<;>rfl
 |some j=>
  obtain ⟨-,h2,s',v,h3⟩:=opIdx_lt hj
  simp only [Nat.sub_zero] at h3
  simp only [List.getD_eq_getElem?_getD,h3,Option.getD_some]
  rw [opFind_set h.op.1 h3,opFind_at h.op.1 h3]
  by_cases e:q=i
  ·subst e;simp
  ·simp [e]
theorem addW_cells (D:DM) (i:Int) (s:Sec):(addW D i s).cells=D.cells∧(addW D i s).steps=D.steps∧(addW D i s).after=D.after∧(addW D i s).dead=D.dead:=by
 unfold addW;split<;>exact ⟨rfl,rfl,rfl,rfl⟩
theorem addW_op {n k:Nat} {D:DM} (h:OkD n k D) {i:Int} (h0:0≤i) (h1:i < n) (hk:k < 1000000000) (s:Sec):opOK n (addW D i s).op∧∀e∈(addW D i s).op,e.2.2.length≤k+1:=by
 unfold addW
 cases hj:opIdx i D.op 0 with
 |none=>
  refine ⟨⟨?_,?_⟩,?_⟩
  ·simp only [List.map_append,List.map_cons,List.map_nil,List.nodup_append,List.nodup_cons,List.not_mem_nil,not_false_eq_true,List.nodup_nil,and_true,List.mem_cons,or_false,true_and]
   refine ⟨h.op.1,fun a ha b hb=>?_⟩
   subst hb
   rintro rfl
   exact opIdx_none hj ha
  ·intro e he
   rcases List.mem_append.1 he with he|he
   ·exact h.op.2 e he
   ·simp at he;subst he;exact ⟨h0,h1,by simp,by simp⟩
  ·intro e he
   rcases List.mem_append.1 he with he|he
   ·have:=h.room e he;omega
   ·simp at he;subst he;simp
 |some j=>
  obtain ⟨-,h2,s',v,h3⟩:=opIdx_lt hj
  simp only [Nat.sub_zero] at h3
  have hm:=List.mem_of_getElem? h3
  have hb:=h.op.2 _ hm
  have hr:=h.room _ hm
  simp only at hb hr
  simp only [List.getD_eq_getElem?_getD,h3,Option.getD_some]
  refine ⟨⟨?_,?_⟩,?_⟩
  ·have:(D.op.set j (s',i,v ++ [s])).map (·.2.1)=D.op.map (·.2.1):=by
    rw [List.map_set]
    apply List.ext_getElem?
    intro q
    rw [List.getElem?_set]
    split
    ·rename_i e;subst e;rw [List.getElem?_map,h3];simp [(List.getElem?_eq_some_iff.1 h3).1]
    ·rfl
   rw [this];exact h.op.1
  ·intro e he
   rcases List.mem_or_eq_of_mem_set he with he|rfl
   ·exact h.op.2 e he
   ·exact ⟨h0,h1,by simp,by simp;omega⟩
  ·intro e he
   rcases List.mem_or_eq_of_mem_set he with he|rfl
   ·have:=h.room e he;omega
   ·simp;omega
theorem OkD.write {n k:Nat} {D:DM} (h:OkD n k D) {i:Int} (h0:0≤i) (h1:i < n) (hk:k < 1000000000) (s:Sec):(D.write i s).1=0∧OkD n (k+1) (D.write i s).2∧(D.write i s).2.steps=D.steps+1:=by
 have hs:OkD n k { D with steps:=D.steps }:=h
 have e:D.write i s=(0,addW { D with steps:=D.steps+1 } i s):=by
  rw [DM.write,if_pos (h.check0 h0 h1),h.step];rfl
 rw [e]
 have hg:∀t,addW { D with steps:=t } i s = { addW D i s with steps:=t }:=by
  intro t
  unfold addW
  simp only
  split<;>rfl
 rw [hg]
 obtain ⟨c1,c2,c3,c4⟩:=addW_cells D i s
 obtain ⟨o1,o2⟩:=addW_op h h0 h1 hk s
 have:=h.steps
 exact ⟨rfl,⟨c4.trans h.dead,c3.trans h.after,by rw [←h.len];exact congrArg List.length c1,by simp only;omega,o1,o2⟩,rfl⟩
theorem OkD.read {n k:Nat} {D:DM} (h:OkD n k D) {q:Int} (h0:0≤q) (h1:q < n):D.read q=if 0 < (D.get q).length then (lastS (D.get q),0) else if (D.cell q).bad then (zeroSec,221) else ((D.cell q).s,0):=by
 rw [DM.read,if_pos (h.check0 h0 h1)]
theorem lastS_snoc (l:List Sec) (s:Sec):lastS (l ++ [s])=s:=by
 unfold lastS
 rw [show ((((l ++ [s]).length:Nat):Int) - 1).toNat=l.length by simp]
 simp [List.getD_eq_getElem?_getD]
theorem OkD.read_write {n k:Nat} {D:DM} (h:OkD n k D) {i:Int} (h0:0≤i) (h1:i < n) (hk:k < 1000000000) (s:Sec) {q:Int} (q0:0≤q) (q1:q < n):(D.write i s).2.read q=if q=i then (s,0) else D.read q:=by
 have hw:=h.write h0 h1 hk s
 rw [hw.2.1.read q0 q1,h.read q0 q1]
 have e:D.write i s=(0,addW { D with steps:=D.steps+1 } i s):=by
  rw [DM.write,if_pos (h.check0 h0 h1),h.step];rfl
 have hg:∀t,addW { D with steps:=t } i s = { addW D i s with steps:=t }:=by
  intro t
  unfold addW
  simp only
  split<;>rfl
 have g1:(D.write i s).2.get q=if q=i then D.get i ++ [s] else D.get q:=by
  rw [e];simp only;rw [hg];exact get_addW h i s q
 have g2:(D.write i s).2.cell q=D.cell q:=by
  rw [e];simp only;rw [hg];unfold DM.cell;rw [←(addW_cells D i s).1]
 rw [g1,g2]
 by_cases hq:q=i
 ·rw [if_pos hq,if_pos hq,if_pos (by simp),lastS_snoc]
 ·rw [if_neg hq,if_neg hq]
theorem OkD.sync {n k:Nat} {D:DM} (h:OkD n k D) (hn:0 < n):D.sync=(0,{ D with steps:=D.steps+1,cells:=synced D.cells D.op,op := [] }):=by
 rw [DM.sync,if_pos (h.check0 (by omega) (by omega)),h.step];rfl
theorem synced_len (cells:List DCell) (op:List (Nat×Int×List Sec)):(synced cells op).length=cells.length:=by simp [synced]
theorem OkD.sync_ok {n k:Nat} {D:DM} (h:OkD n k D) (hn:0 < n):D.sync.1=0∧OkD n (k+1) D.sync.2∧D.sync.2.steps=D.steps+1∧D.sync.2.op = []:=by
 rw [h.sync hn]
 have:=h.steps
 exact ⟨rfl,⟨h.dead,h.after,by simp only [synced_len];exact h.len,by simp only;omega,⟨by simp,by simp⟩,by simp⟩,rfl,rfl⟩
theorem OkD.read_sync {n k:Nat} {D:DM} (h:OkD n k D) (hn:0 < n) {q:Int} (q0:0≤q) (q1:q < n):D.sync.2.read q=D.read q:=by
 rw [(h.sync_ok hn).2.1.read q0 q1,h.read q0 q1,h.sync hn]
 have g1:({ D with steps:=D.steps+1,cells:=synced D.cells D.op,op := [] } : DM).get q = []:=by rw [get_find];rfl
 rw [g1,if_neg (by simp),get_find]
 have hc:({ D with steps:=D.steps+1,cells:=synced D.cells D.op,op := [] } : DM).cell q=match opFind q D.op with
   |some l=>⟨lastS l,false⟩
   |none=>D.cell q:=by
  unfold DM.cell synced
  have hl:q.toNat < D.cells.length:=by rw [h.len];omega
  simp only [List.getD_eq_getElem?_getD,List.getElem?_map,List.getElem?_range hl,Option.map_some,Option.getD_some]
  rw [Int.toNat_of_nonneg q0]
  all_goals (cases opFind q D.op<;>rfl)
 rw [hc]
 cases hf:opFind q D.op with
 |none=>rfl
 |some l=>
  have hl:0 < l.length:=by
   rw [opFind_idx D.op 0] at hf
   cases hj:opIdx q D.op 0 with
   |none=>rw [hj] at hf;cases hf
   |some j=>
    rw [hj] at hf
    obtain ⟨-,h2,s',v,h3⟩:=opIdx_lt hj
    simp only [Nat.sub_zero,List.getD_eq_getElem?_getD] at h3 hf
    rw [h3] at hf
    simp at hf
    subst hf
    exact (h.op.2 _ (List.mem_of_getElem? h3)).2.2.1
  simp [hl]
theorem OkD.rot {n k:Nat} {D:DM} (h:OkD n k D) (i:Int):OkD n k (D.rot i)∧(D.rot i).op=D.op∧(D.rot i).steps=D.steps:=by
 unfold DM.rot
 split
 ·exact ⟨⟨h.dead,h.after,by simp only [DM.setc,List.length_set];exact h.len,h.steps,h.op,h.room⟩,rfl,rfl⟩
 ·exact ⟨h,rfl,rfl⟩
theorem OkD.read_rot {n k:Nat} {D:DM} (h:OkD n k D) (ho:D.op = []) {i:Int} (h0:0≤i) (h1:i < n) {q:Int} (q0:0≤q) (q1:q < n):(D.rot i).read q=if q=i then (zeroSec,221) else D.read q:=by
 obtain ⟨r1,r2,-⟩:=h.rot i
 have g:∀E:DM,E.op = []→E.get q = []:=fun E hE=>by rw [get_find,hE];rfl
 rw [r1.read q0 q1,h.read q0 q1,g _ (r2.trans ho),g _ ho]
 simp only [List.length_nil,Nat.lt_irrefl,if_false]
 have hc:(D.rot i).cell q=if q=i then ⟨zeroSec,true⟩ else D.cell q:=by
  unfold DM.rot DM.cell
  rw [if_pos (h.check0 h0 h1)]
  unfold DM.setc
  simp only [List.getD_eq_getElem?_getD,List.getElem?_set]
  have hl:=h.len
  by_cases e:q=i
  ·subst e;rw [if_pos rfl,if_pos rfl,if_pos (by omega)];rfl
  ·rw [if_neg e,if_neg (by omega)]
 rw [hc]
 by_cases e:q=i
 ·rw [if_pos e,if_pos e];rfl
 ·rw [if_neg e,if_neg e]
theorem newD_ok (n:Nat):OkD n 0 (newD n):=⟨rfl,rfl,by simp [newD],by simp [newD],⟨by simp [newD],by simp [newD]⟩,by simp [newD]⟩
def addU (a b:Int):Int:=IntKind.u32.wrap (a+b)
def xorU (a b:Int):Int:=IntKind.u32.wrap (BitVec.ofInt IntKind.u32.bits a ^^^ BitVec.ofInt IntKind.u32.bits b).toNat
def andU (a b:Int):Int:=IntKind.u32.wrap (BitVec.ofInt IntKind.u32.bits a &&& BitVec.ofInt IntKind.u32.bits b).toNat
def orU (a b:Int):Int:=IntKind.u32.wrap (BitVec.ofInt IntKind.u32.bits a ||| BitVec.ofInt IntKind.u32.bits b).toNat
def shlU (a:Int) (n:Nat):Int:=IntKind.u32.wrap (a * 2 ^ n)
def shrU (a:Int) (n:Nat):Int:=a.fdiv (2 ^ n)
def notU (a:Int):Int:=IntKind.u32.wrap (BitVec.ofInt IntKind.u32.bits 4294967295 ^^^ BitVec.ofInt IntKind.u32.bits a).toNat
def rotI (x:Int) (r:Nat):Int:=orU (shlU x (32 - r)) (shrU x r)
set_option maxRecDepth 10000 in
set_option maxHeartbeats 1000000 in
theorem pw_rotl (x:Int) (r:Nat) (hr:r ∈ [2,6,7,11,13,17,18,19,22,25]):PCalls Tryz.prog 121 [pu32 x,pint (-(r:Int))] (· = pu32 (rotI x r)):=by
 refine pcalls_of_pw typeTab_ok Tryz.func121 rfl (by kernel_rfl) (by exact lw) (by simp [pu32,pint,PV.ownB]) (Nat.le_of_ble_eq_true rfl) ?_
 simp only [List.mem_cons,List.not_mem_nil,or_false] at hr
 rcases hr with rfl|rfl|rfl|rfl|rfl|rfl|rfl|rfl|rfl|rfl
 all_goals
  refine wk ?_
  refine retP rfl (by exact lw) rfl
def mixI (x:Int) (i j k:Nat):Int:=xorU (xorU (rotI x i) (rotI x j)) (rotI x k)
set_option maxRecDepth 10000 in
set_option maxHeartbeats 1000000 in
theorem pw_mixA (x:Int):PCalls Tryz.prog 119 [pu32 x,pint 6,pint 11,pint 25] (· = pu32 (mixI x 6 11 25)):=by
 refine pcalls_of_pw typeTab_ok Tryz.func119 rfl (by kernel_rfl) (by exact lw) (by simp [pu32,pint,PV.ownB]) (Nat.le_of_ble_eq_true rfl) ?_
 have r1:=pw_rotl x 6 (by simp)
 have r2:=pw_rotl x 11 (by simp)
 have r3:=pw_rotl x 25 (by simp)
 refine wk ?_
 refine retP rfl (by exact lw) rfl
set_option maxRecDepth 10000 in
set_option maxHeartbeats 1000000 in
theorem pw_mixB (x:Int):PCalls Tryz.prog 119 [pu32 x,pint 2,pint 13,pint 22] (· = pu32 (mixI x 2 13 22)):=by
 refine pcalls_of_pw typeTab_ok Tryz.func119 rfl (by kernel_rfl) (by exact lw) (by simp [pu32,pint,PV.ownB]) (Nat.le_of_ble_eq_true rfl) ?_
 have r1:=pw_rotl x 2 (by simp)
 have r2:=pw_rotl x 13 (by simp)
 have r3:=pw_rotl x 22 (by simp)
 refine wk ?_
 refine retP rfl (by exact lw) rfl
def beI (l:List Int):Int:=l.foldl (fun a x=>orU (shlU a 8) (IntKind.u32.wrap x)) 0
def sigI (x:Int) (i j k:Nat):Int:=xorU (xorU (rotI x i) (rotI x j)) (shrU x k)
def schV (W:List Int) (t:Nat):Int:=addU (addU (addU (W.getD (t - 16) 0) (sigI (W.getD (t - 15) 0) 7 18 3)) (W.getD (t - 7) 0)) (sigI (W.getD (t - 2) 0) 17 19 10)
def schW (b:List Int):Nat→List Int
 |0=>List.replicate 64 0
 |t+1=>(schW b t).set t (if t < 16 then beI ((b.drop (4 * t)).take 4) else schV (schW b t) t)
theorem schW_len (b:List Int):∀t,(schW b t).length=64
 |0=>by simp [schW]
 |t+1=>by rw [schW,List.length_set,schW_len b t]
def schI (W C:List Int) (t j:Nat):List Int:=W.set t (beI (C.take j))
theorem hgetD_set {l:List Int} {t:Nat} {x d:Int} (h:t < l.length):(l.set t x).getD t d=x:=by
 rw [List.getD_eq_getElem?_getD,List.getElem?_set_self h];rfl
theorem beI_succ {C:List Int} {j:Nat} (h:j < C.length):beI (C.take (j+1))=orU (shlU (beI (C.take j)) 8) (IntKind.u32.wrap (C.getD j default)):=by
 rw [take_getD default h,beI,List.foldl_append];rfl
theorem schI_succ {W C:List Int} {t j:Nat} (ht:t < W.length) (h:j < C.length):schI W C t (j+1)=(schI W C t j).set t (orU (shlU ((schI W C t j).getD t default) 8) (IntKind.u32.wrap (C.getD j default))):=by
 rw [schI,schI,hgetD_set ht,List.set_set,beI_succ h]
theorem schI_zero {W:List Int} (C:List Int) {t:Nat} (h:W[t]? = some 0):W=schI W C t 0:=by
 rw [schI,List.take_zero]
 show W=W.set t 0
 apply List.ext_getElem?
 intro i
 rw [List.getElem?_set]
 split
 ·subst i;rw [h];have:=(List.getElem?_eq_some_iff.1 h).1;simp [this]
 ·rfl
theorem schW_zero (b:List Int):∀t k,t≤k→k < 64→(schW b t)[k]? = some 0
 |0,k,_,h=>by rw [schW,List.getElem?_replicate];simp [h]
 |t+1,k,h1,h2=>by rw [schW,List.getElem?_set,if_neg (by omega)];exact schW_zero b t k (by omega) h2
set_option maxRecDepth 10000 in
set_option maxHeartbeats 2000000 in
theorem pw_schedule (b:List Int) (hb:b.length=64):PCalls Tryz.prog 118 [pbytes b] (· = .agg ((schW b 64).map pu32)):=by
 refine pcalls_of_pw typeTab_ok Tryz.func118 rfl (by kernel_rfl) (by exact lw) (by simp [pbytes,PV.ownB]) (Nat.le_of_ble_eq_true rfl) ?_
 refine wk ?_
 refine PW.loop (fun t:Nat=>(((((bot.setb 0 (List.replicate 64 (pu32 0))).put 2 (.ptr 0 0)).setb 1000 ((schW b t).map pu32)).put 3 (.ptr 1000 0)).put 0 (pbytes b)).put 11 (pint t)) (fun t=>t≤64) (fun t=>64 - t) 0 (by omega) ?_ ?_
 ·exact sb
 ·intro t ht
  have hl:=schW_len b t
  by_cases h64:t < 64
  ·by_cases h16:t < 16
   ·obtain ⟨C,hC⟩:∃C,C=(b.drop (4 * t)).take 4:=⟨_,rfl⟩
    have hCl:C.length=4:=by rw [hC,List.length_take,List.length_drop];omega
    refine wk ?_
    rw [show List.take ((4 * (t:Int)+4).toNat - (4 * (t:Int)).toNat) (List.drop (4 * (t:Int)).toNat b)=C by
     rw [hC];congr 1<;>omega]
    have h0:(schI (schW b t) C t 0).map pu32=(schW b t).map pu32:=by rw [←schI_zero C (schW_zero b t t (Nat.le_refl _) h64)]
    refine PW.loop (fun j:Nat=>((((((((bot.setb 0 (List.replicate 64 (pu32 0))).put 2 (.ptr 0 0)).setb 1000 ((schI (schW b t) C t j).map pu32)).put 3 (.ptr 1000 0)).put 0 (pbytes b)).put 11 (pint t)).put 4 (pint t)).put 22 (pbytes C)).put 23 (pint C.length) |>.put 24 (pint j)) (fun j=>j≤4) (fun j=>4 - j) 0 (by omega) ?_ ?_
    ·exact sb
    ·intro j hj
     have hl2:(schI (schW b t) C t j).length=64:=by rw [schI,List.length_set,hl]
     by_cases h4:j < 4
     ·have hS:(schI (schW b t) C t (j+1)).map pu32=((schI (schW b t) C t j).set t (orU (shlU ((schI (schW b t) C t j).getD t default) 8) (IntKind.u32.wrap (C.getD j default)))).map pu32:=by rw [schI_succ (by omega) (by omega)]
      refine wk ?_
      refine loopP (j+1) (by omega) (by omega) ?_
      exact sb
     ·have e:j=4:=by omega
      subst e
      have hS:(schW b (t+1)).map pu32=(schI (schW b t) C t 4).map pu32:=by
       rw [schW,if_pos h16,schI,←hC,List.take_of_length_le (by omega)]
      generalize schI (schW b t) C t 4=W4 at *
      refine wk ?_
      refine loopP (t+1) (by omega) (by omega) ?_
      exact sb
   ·have r1:=pw_rotl ((schW b t).getD ((t:Int) - 15).toNat default) 7 (by simp)
    have r2:=pw_rotl ((schW b t).getD ((t:Int) - 15).toNat default) 18 (by simp)
    have r3:=pw_rotl ((schW b t).getD ((t:Int) - 2).toNat default) 17 (by simp)
    have r4:=pw_rotl ((schW b t).getD ((t:Int) - 2).toNat default) 19 (by simp)
    have hS:(schW b (t+1)).map pu32=((schW b t).set (t:Int).toNat (addU (addU (addU ((schW b t).getD ((t:Int) - 16).toNat default) (sigI ((schW b t).getD ((t:Int) - 15).toNat default) 7 18 3)) ((schW b t).getD ((t:Int) - 7).toNat default)) (sigI ((schW b t).getD ((t:Int) - 2).toNat default) 17 19 10))).map pu32:=by
     rw [schW,if_neg h16,schV,show ((t:Int) - 16).toNat=t - 16 by omega,show ((t:Int) - 15).toNat=t - 15 by omega,show ((t:Int) - 7).toNat=t - 7 by omega,show ((t:Int) - 2).toNat=t - 2 by omega];rfl
    refine wk ?_
    refine loopP (t+1) (by omega) (by omega) ?_
    exact sb
  ·have e:t=64:=by omega
   subst e
   generalize schW b 64=W at *
   refine wk ?_
   exact ⟨_,presult1 (pres_cell rfl rfl rfl (len_map hl) (bare_map (fun _=>rfl) _)),by exact lw,rfl⟩
structure H8 where
 (a b c d e f g h:Int)
def pH (s:H8):List PV := [pu32 s.a,pu32 s.b,pu32 s.c,pu32 s.d,pu32 s.e,pu32 s.f,pu32 s.g,pu32 s.h]
theorem low_pH (s:H8):∀c∈pH s,Low c:=by intro c hc;simp [pH] at hc;rcases hc with rfl|rfl|rfl|rfl|rfl|rfl|rfl|rfl<;>exact .val _
def rndX (v:H8) (k w:Int):Int:=addU (addU (addU (addU v.h (mixI v.e 6 11 25)) (xorU (andU v.e v.f) (andU (notU v.e) v.g))) k) w
def rndY (v:H8):Int:=addU (mixI v.a 2 13 22) (xorU (xorU (andU v.a v.b) (andU v.a v.c)) (andU v.b v.c))
def rnd (v:H8) (k w:Int):H8:=⟨addU (rndX v k w) (rndY v),v.a,v.b,v.c,addU v.d (rndX v k w),v.e,v.f,v.g⟩
def rnds (ks ws:List Int) (v:H8):Nat→H8
 |0=>v
 |t+1=>rnd (rnds ks ws v t) (ks.getD t default) (ws.getD t default)
def addH (s v:H8):H8:=⟨addU s.a v.a,addU s.b v.b,addU s.c v.c,addU s.d v.d,addU s.e v.e,addU s.f v.f,addU s.g v.g,addU s.h v.h⟩
def cmpH (ks:List Int) (s:H8) (b:List Int):H8:=addH s (rnds ks (schW b 64) s 64)
set_option maxRecDepth 10000 in
set_option maxHeartbeats 2000000 in
theorem pw_compress (s:H8) (b:List Int) (hb:b.length=64):PCalls Tryz.prog 112 [.agg (pH s),pbytes b] (· = .agg (pH (cmpH glob0 s b))):=by
 refine pcalls_of_pw typeTab_ok Tryz.func112 rfl (by kernel_rfl) (by intro p hp;simp at hp;rcases hp with rfl|rfl;exact .agg _ (low_pH s);exact lw) (by simp [pbytes,PV.ownB]) (Nat.le_of_ble_eq_true rfl) ?_
 have hs:=pw_schedule b hb
 have hg:glob0.length=64:=rfl
 have hwl:=schW_len b 64
 obtain ⟨W,hW⟩:∃W,W=schW b 64:=⟨_,rfl⟩
 rw [←hW] at hs hwl
 rw [show cmpH glob0 s b=addH s (rnds glob0 W s 64) by rw [cmpH,hW]]
 obtain ⟨G,hG⟩:∃G,G=glob0:=⟨_,rfl⟩
 refine wk ?_
 refine PW.loop (fun t:Nat=>(((((((((((bot.setb 0 (pH s)).put 2 (.ptr 0 0)).setb 1 (List.replicate 8 (pu32 0))).put 4 (.ptr 1 0)).setb 1002 (W.map pu32)).put 5 (.ptr 1002 0)).setb 2006 [pu32 (rnds glob0 W s t).a,pu32 (rnds glob0 W s t).b,pu32 (rnds glob0 W s t).c,pu32 (rnds glob0 W s t).d]).setb 2007 [pu32 (rnds glob0 W s t).e,pu32 (rnds glob0 W s t).f,pu32 (rnds glob0 W s t).g,pu32 (rnds glob0 W s t).h]).put 6 (.ptr 2006 0)).put 7 (.ptr 2007 0)).put 21 (.agg (glob0.map pu32))).put 22 (pint t)) (fun t=>t≤64) (fun t=>64 - t) 0 (by omega) ?_ ?_
 ·exact sb
 ·intro t ht
  by_cases h64:t < 64
  ·obtain ⟨v,hv⟩:∃v,v=rnds glob0 W s t:=⟨_,rfl⟩
   have hn:rnds glob0 W s (t+1)=rnd v (glob0.getD t default) (W.getD t default):=by rw [rnds,hv]
   rw [←hv]
   have m1:=pw_mixA v.e
   have m2:=pw_mixB v.a
   refine wk ?_
   refine loopP (t+1) (by omega) (by omega) ?_
   simp only [hn]
   exact sb
  ·have e:t=64:=by omega
   subst e
   generalize rnds glob0 W s 64=v at *
   refine wk ?_
   refine PW.unroll ?_
   refine wk ?_
   refine loopU ?_
   refine wk ?_
   refine loopU ?_
   refine wk ?_
   refine loopU ?_
   refine wk ?_
   refine loopU ?_
   refine wk ?_
   refine ⟨_,presult1 (pres_cell rfl rfl rfl rfl rfl), .agg _ ?_,?_⟩
   ·exact low_pH (addH s v)
   ·rfl
end
end Go.Proofs.YtmeekbjhpidcgaaGreatDoor
