/- Out of: PwIt4, PwIt5, PwIt6, Sg, PwLd, PwCut, Za, Tg. -/
import Derived.Test.YtmeekbjhpidcgaaDoorG15
namespace Go.Proofs.YtmeekbjhpidcgaaDoor
set_option linter.unusedSimpArgs false
set_option linter.unusedVariables false
set_option linter.unnecessarySimpa false
section
open Go.RowKit
variable {Φ0:Ent} {W:World} {M:Nat} {Φ:Imm} {μ:Nat→Option Nat} {ω:Nat→Option Who} {σ:PS} {a:Act} {w:World} {P:Program} {T:Tab}
theorem RelG.rebaseA (h:RelG Φ0 W M Φ μ ω σ a w) {Φ1:Ent} {W1:World} {a' : Act} (ht:a'.tmps=a.tmps) (hb:Kept (Old Φ1 W1) W1 w) (hd:a'.defers=Φ1.marks.map collD∧RndOK Φ1 W1) (ho:∀b o,Old Φ1 W1 b→Φ b o=Φ1.imm b o)
  (hg:∀id g,Φ1.mu id=some g→1000000≤id) (hk:∀id g,Φ1.mu id=some g→(σ.b id≠none∨σ.m id≠none)→μ id=some g) (he:∀b o u,Φ1.imm b o=some u→Φ b o=some u∧b < W1.heap.size) (hm:∀g p,ω g=some p→Mine Φ1 W1 g):RelG Φ1 W1 M Φ μ ω σ a' w:=
 ⟨hb,hd,by rw [ht];exact h.size,h.imm,ho,by rw [ht];exact h.tmps,fun t n k cs E e=>by rw [ht];exact (h.own t n k cs E e).inB (fun g e=>hm g _ e),fun id bs e=>(h.box id bs e).inB (fun g q _ e=>hm g q e),h.gone,h.lt,hg,hk,he,fun id X e=>(h.map id X e).inB (fun g q _ e=>hm g q e),hm⟩
def OwnsX (c:PV):Prop:=∀n k cs E,c = .sl n k cs (some E)→cs = []∨∃(j:Nat) (c:PV),cs[j]? = some c∧noI64 c=true
theorem ownsX_no {c:PV} (h:c.ownB=false):OwnsX c:=fun n k cs E e=>by rw [e] at h;simp [PV.ownB] at h
theorem OwnAt.mixJ {B B' : Nat→Prop} {Φ:Imm} {μ:Nat→Option Nat} {ω ω' : Nat→Option Who} {w:World} {p:Who} {n k:Nat} {cs:List PV} {E:TypeId} {v:Value} (h:OwnAt B Φ ω w p n k E v) (hr:Rep Φ μ (.sl n k cs (some E)) v) (ho:OwnsX (.sl n k cs (some E))) (hω:∀g,ω g=some p→Mix Φ g→ω' g=some p∧B' g):OwnAt B' Φ ω' w p n k E v:=by
 rcases h with h|⟨g,cap,cur,rfl,h2,h3,h4,h5,h6,h7,h8⟩|h
 ·exact .inl h
 ·obtain ⟨k1,k2⟩:=hω g h7 (own_mix hr h8.2 (ho n k cs E rfl))
  exact .inr (.inl ⟨g,cap,cur,rfl,k2,h3,h4,h5,h6,k1,h8⟩)
 ·exact .inr (.inr h)
structure OwnsS (σ:PS):Prop where
 t:∀t,(σ.t t).ownB=false
 b:∀id bs,σ.b id=some bs→∀c∈bs,OwnsX c
 m:∀id es clock,σ.m id=some (.map es clock)→∀e∈es,OwnsX e.2.2
theorem ownsS_bot:OwnsS bot:=⟨fun _=>rfl,fun _ _ e=>(by cases e),fun _ _ _ e=>(by cases e)⟩
theorem OwnsS.put {σ:PS} (h:OwnsS σ) {d:Nat} {p:PV} (hp:p.ownB=false):OwnsS (σ.put d p):=by
 refine ⟨fun t=>?_,h.b,h.m⟩
 simp only [PS.put,upd_if]
 split
 ·exact hp
 ·exact h.t t
theorem OwnsS.setb {σ:PS} (h:OwnsS σ) {i:Nat} {bs:List PV} (hp:∀c∈bs,OwnsX c):OwnsS (σ.setb i bs):=by
 refine ⟨h.t,fun id cs e=>?_,h.m⟩
 simp only [PS.setb,upd_if] at e
 split at e
 ·cases e;exact hp
 ·exact h.b id cs e
theorem OwnsS.setm {σ:PS} (h:OwnsS σ) {i:Nat} {X:PMap} (hp:∀es clock,X = .map es clock→∀e∈es,OwnsX e.2.2):OwnsS (σ.setm i X):=by
 refine ⟨h.t,h.b,fun id es clock e=>?_⟩
 simp only [PS.setm,upd_if] at e
 split at e
 ·cases e;exact hp es clock rfl
 ·exact h.m id es clock e
theorem ownsX_nil:∀c∈([]:List PV),OwnsX c:=fun c h=>by cases h
theorem ownsX_cons {c:PV} {cs:List PV} (h:OwnsX c) (hs:∀c∈cs,OwnsX c):∀d∈c :: cs,OwnsX d:=by
 intro d hd
 rcases List.mem_cons.1 hd with rfl|hd
 ·exact h
 ·exact hs d hd
open Classical in
theorem RelG.mixed (h:RelG Φ0 W M Φ μ ω σ a w) (ho:OwnsS σ):∃ωm,RelG Φ0 W M Φ μ ωm σ a w∧∀g p,ωm g=some p→ω g=some p∧Mix Φ g:=by
 let ωm:Nat→Option Who:=fun g=>if Mix Φ g then ω g else none
 have h1:∀g p,ωm g=some p→ω g=some p∧Mix Φ g:=by
  intro g p e
  have e' : (if Mix Φ g then ω g else none)=some p:=e
  split at e'
  ·rename_i hm;exact ⟨e',hm⟩
  ·cases e'
 have h2:∀g p,ω g=some p→Mix Φ g→ωm g=some p:=fun g p e hm=>by show (if _ then _ else _)=_;rw [if_pos hm];exact e
 have h3:∀g,(∀j,Φ g j=none)→Mix Φ g:=fun g hj o u e=>by rw [hj] at e;cases e
 refine ⟨ωm,⟨h.below,h.defers,h.size,h.imm,h.old,h.tmps,fun t n k cs E e=>?_,fun id bs e=>?_,h.gone,fun g p e=>h.lt g p (h1 g p e).1,h.gmu,h.kmu,h.ext,fun id X e=>?_,fun g p e=>h.mine g p (h1 g p e).1⟩,h1⟩
 ·have:=ho.t t
  rw [e] at this
  simp [PV.ownB] at this
 ·obtain ⟨g,cur,Ty,k1,k2,k3,k4,k5,k6,k7⟩:=h.box id bs e
  refine ⟨g,cur,Ty,k1,k2,k3,h2 g _ k4 (h3 g k5),k5,k6,fun j c hc=>?_⟩
  obtain ⟨u,r1,r2,r3,r4⟩:=k7 j c hc
  refine ⟨u,r1,r2,r3,fun n k cs E e' => (r4 n k cs E e').mixJ (cs:=cs) (μ:=μ) (by rw [←e'];exact r3) (by rw [←e'];exact ho.b id bs e c (mem_of_get hc)) (fun g' e2 hno=>⟨h2 g' _ e2 hno,h.mine g' _ e2⟩)⟩
 ·obtain ⟨g,k1,k2,k3,k4,k5⟩:=h.map id X e
  refine ⟨g,k1,k2,h2 g _ k3 (h3 g k4),k4,?_⟩
  cases X with
  |map es clock=>
   obtain ⟨e0,ents,e1,e2,e3⟩:=k5
   refine ⟨e0,ents,e1,e2,fun j s k c hj=>?_⟩
   obtain ⟨en,f1,f2,f3,f4,f5⟩:=e3 j s k c hj
   refine ⟨en,f1,f2,f3,f4,fun n kk cs E ec=>(f5 n kk cs E ec).mixJ (cs:=cs) (μ:=μ) (by rw [←ec];exact f4) (by rw [←ec];exact ho.m id es clock e _ (mem_of_get hj)) (fun g' e2 hno=>⟨h2 g' _ e2 hno,h.mine g' _ e2⟩)⟩
  |iter=>exact k5
theorem RelG.subS {σ' : PS} (h:RelG Φ0 W M Φ μ ω σ a w) (hs:Sub M σ σ'):∃Φ' μ' ω',RelG Φ0 W M Φ' μ' ω' σ' a w∧Since Φ ω w Φ' ω' w:=by
 obtain ⟨Φ',μ',ω',k⟩:=hs _ _ _ _ ⟨Φ,μ,ω,h.fresh0 h.gmu h.kmu⟩
 have hsi:=h.since (Later.refl _ _) k
 have hold0:∀b,Old Φ0 W b→b < w.heap.size∧∀p,ω b≠some p:=fun b hb=>⟨Nat.lt_of_lt_of_le hb.1 h.below.size,h.noOld hb⟩
 refine ⟨Φ',μ',ω',k.rebase h.below h.defers (fun b o hb=>?_) h.gmu k.kmu (fun b o u e=>⟨?_,(h.ext b o u e).2⟩) (fun g p e=>?_),hsi⟩
 ·rw [hsi.imm b o (hold0 b hb).1 (hold0 b hb).2];exact h.old b o hb
 ·by_cases hω:∃p,ω b=some p
  ·exact (k.ext b o u ((freshI_own hω).trans e)).1
  ·have:=h.ext b o u e
   rw [hsi.imm b o (Nat.lt_of_lt_of_le this.2 h.below.size) (fun p e=>hω ⟨p,e⟩)]
   exact this.1
 ·rcases hsi.own g p e with ⟨q,hq⟩|hq
  ·exact h.mine g q hq
  ·exact .inl (Nat.le_trans h.below.size hq)
theorem putObj_cell {w:World} {l:Nat} {ob:Obj} (hl:∀o u,w.cell? ⟨l,o,none⟩≠some u) {b o:Nat} {u:Value} (h:w.cell? ⟨b,o,none⟩=some u):(w.putObj l ob).cell? ⟨b,o,none⟩=some u:=by
 have hb:b≠l:=by rintro rfl;exact hl o u h
 simp only [World.cell?] at h ⊢
 rw [World.putObj_heap_other hb];exact h
theorem loop_nocell {w:World} {l:Nat} {r:Loop} (h:w.heap[l]? = some (.loop r)):∀o u,w.cell? ⟨l,o,none⟩≠some u:=by
 intro o u e
 simp only [World.cell?,h] at e
 cases e
theorem RelG.putLoop (h:RelG Φ0 W M Φ μ ω σ a w) {l:Nat} {r:Loop} (hl:w.heap[l]? = some (.loop r)) (hω:∀p,ω l≠some p) (hold:¬Old Φ0 W l) (r' : Obj):RelG Φ0 W M Φ μ ω σ a (w.putObj l r'):=by
 refine h.grow (h.below.trans ⟨rfl,rfl,rfl,by simp,fun k hk=>World.putObj_heap_other (fun e=>hold (e ▸ hk))⟩) (fun b o u e=>putObj_cell (loop_nocell hl) (h.imm b o u e)) (fun _ _ _=>rfl) (fun _ _ _ e=>e) (fun g p e=>⟨World.putObj_heap_other (fun e' => hω p (e' ▸ e)),fun _=>rfl⟩) (by simp)
theorem RelG.putRound (h:RelG Φ0 W M Φ μ ω σ a w) {l:Nat} {r r' : Loop} (hr:Φ0.round=some l) (hl:w.heap[l]? = some (.loop r)):RelG (h.freshE Φ0.mu) (w.putObj l (.loop r')) M Φ μ ω σ a (w.putObj l (.loop r')):=by
 obtain ⟨q1,q2,-⟩:=h.rnd hr
 have h1:=h.fresh0 h.gmu h.kmu
 let Φg:Ent:=⟨freshI Φ0.imm Φ ω,fun g=>(∃p,ω g=some p)∨g=l,Φ0.mu,h.freshGlob,fun g hg=>by
  rcases hg with hg|rfl
  ·exact h.freshMix hg
  ·intro o u e
   have:=h.imm _ _ _ (h.freshSub e)
   exact absurd this (loop_nocell hl o u),Φ0.marks,none⟩
 have h2:RelG Φg w M Φ μ ω σ a w:=h1.rebase (Kept.refl _ _) ⟨h1.defers.1,fun _ e=>by cases e⟩ (fun b o hb=>(freshI_eq fun p e=>hb.2 (.inl ⟨p,e⟩)).symm) h.gmu h.kmu (fun b o u e=>⟨h.freshSub e,RelG.fresh h (h.freshSub e)⟩) (fun g p e=>.inr (.inl ⟨p,e⟩))
 have h3:RelG Φg w M Φ μ ω σ a (w.putObj l (.loop r')):=h2.putLoop hl q2 (fun ho=>ho.2 (.inr rfl)) _
 refine h3.rebase (Kept.refl _ _) ⟨h1.defers.1,fun l' e=>?_⟩ (fun b o hb=>(freshI_eq fun p e=>hb.2 ⟨p,e⟩).symm) h.gmu h.kmu (fun b o u e=>⟨h.freshSub e,by simpa using RelG.fresh h (h.freshSub e)⟩) (fun g p e=>.inr ⟨p,e⟩)
 have e' : Φ0.round=some l':=e
 rw [hr] at e'
 cases e'
 exact ⟨⟨by simpa using q1,fun ⟨p,hp⟩=>q2 p hp⟩,r',World.putObj_heap_same q1⟩
def setps (f:Nat→PV):List Nat→List PV→Nat→PV
 |p :: ps,x :: xs=>setps (upd f p x) ps xs
 |_,_=>f
theorem RelG.puts:∀(ps:List Nat) (xs:List PV) (vs:List Value) (σ:PS) (a:Act),RelG Φ0 W M Φ μ ω σ a w→(∀p∈ps,p < M)→ps.length=xs.length→RepL Φ μ xs vs→(∀x∈xs,x.ownB=false) →
  RelG Φ0 W M Φ μ ω { σ with t:=setps σ.t ps xs } { a with tmps:=(ps.zip vs).foldl (fun t (p,v)=>t.setIfInBounds p v) a.tmps } w
 | [],xs,vs,σ,a,h,_,_,_,_=>by simpa [setps] using h
 |p :: ps,[],vs,σ,a,h,_,hl,_,_=>by cases hl
 |p :: ps,x :: xs,[],σ,a,h,_,_,hr,_=>by have:=hr.1;cases this
 |p :: ps,x :: xs,v :: vs,σ,a,h,hp,hl,hr,ho=>by
  have h1:=h.put (hp p List.mem_cons_self) (hr.2 0 x v rfl rfl) (ho x List.mem_cons_self)
  have:=RelG.puts ps xs vs _ _ h1 (fun q hq=>hp q (List.mem_cons_of_mem _ hq)) (by simpa using hl) ⟨by have:=hr.1;simpa using this,fun j y u h1 h2=>hr.2 (j+1) y u h1 h2⟩ (fun y hy=>ho y (List.mem_cons_of_mem _ hy))
  exact this
end
section
open Go.RowKit
def CJ (Φr:Ent) (W1:World) (M:Nat) (a0:Act) (l:Nat) (σ:PS) (I:Nat→Prop) (K:Imm) (w:World):Prop:=
 ∃Φ μ ω,RelG Φr W1 M Φ μ ω σ a0 w∧(∀g,I g→∀p,ω g≠some p)∧(∀p,ω l≠some p)∧(∀b o u,I b→Φ b o=some u→K b o=some u)∧(∀g,I g→¬Old Φr W1 g∧g≠l)
end
section
open Go.RowKit
variable {Φr:Ent} {W1:World} {M:Nat} {a0:Act} {l:Nat} {σ:PS} {I I' : Nat→Prop} {K K' : Imm} {w w' : World} {P:Program}
theorem CJ.step (h:CJ Φr W1 M a0 l σ I K w) (hlw:l < w.heap.size) (hk:Kept (fun b=>b < w.heap.size∧¬I b) w w') (hI:∀g,I' g→I g∨w.heap.size≤g) (hK:∀b o u,K b o=some u→I b→K' b o=some u) (hc:∀b o u,K' b o=some u→w'.cell? ⟨b,o,none⟩=some u):CJ Φr W1 M a0 l σ I' K' w':=by
 obtain ⟨Φ,μ,ω,hg,h1,h2,h3,h4⟩:=h
 have hg' : RelG Φr W1 M Φ μ ω σ a0 w':=by
  refine hg.grow (hg.below.trans (hk.mono fun b hb=>⟨Nat.lt_of_lt_of_le hb.1 hg.below.size,fun hi=>(h4 b hi).1 hb⟩)) (fun b o u e=>?_) (fun _ _ _=>rfl) (fun _ _ _ e=>e) (fun g p e=>⟨hk.block g ⟨hg.lt g p e,fun hi=>h1 g hi p e⟩,fun _=>rfl⟩) hk.size
  ·by_cases hi:I b
   ·exact hc b o u (hK b o u (h3 b o u hi e) hi)
   ·have:=hg.imm b o u e
    simp only [World.cell?] at this ⊢
    rw [hk.block b ⟨RelG.fresh hg e,hi⟩]
    exact this
 refine ⟨Φ,μ,ω,hg',fun g hi p e=>?_,h2,fun b o u hi e=>?_,fun g hi=>?_⟩
 ·rcases hI g hi with h' | h'
  ·exact h1 g h' p e
  ·have:=hg.lt g p e;omega
 ·rcases hI b hi with h' | h'
  ·exact hK b o u (h3 b o u h' e) h'
  ·have:=RelG.fresh hg e;omega
 ·rcases hI g hi with h' | h'
  ·exact h4 g h'
  ·exact ⟨fun ho=>by have:=ho.1;have:=hg.below.size;omega,by omega⟩
theorem CJ.putLoop {r:Loop} (h:CJ Φr W1 M a0 l σ I K w) (hl:w.heap[l]? = some (.loop r)) (hold:¬Old Φr W1 l) (r' : Obj):CJ Φr W1 M a0 l σ I K (w.putObj l r'):=by
 obtain ⟨Φ,μ,ω,hg,h1,h2,h3,h4⟩:=h
 exact ⟨Φ,μ,ω,hg.putLoop hl h2 hold r',h1,h2,h3,h4⟩
theorem CJ.sub {σ' : PS} (h:CJ Φr W1 M a0 l σ I K w) (hs:Sub M σ σ') (hl:l < w.heap.size) (hI:∀g,I g→g < w.heap.size):CJ Φr W1 M a0 l σ' I K w:=by
 obtain ⟨Φ,μ,ω,hg,h1,h2,h3,h4⟩:=h
 obtain ⟨Φ',μ',ω',k,hsi⟩:=hg.subS hs
 have hno:∀g,g < w.heap.size→(∀p,ω g≠some p)→∀p,ω' g≠some p:=fun g hlt hn p e=>by
  rcases hsi.own g p e with ⟨q,hq⟩|hq
  ·exact hn q hq
  ·omega
 refine ⟨Φ',μ',ω',k,fun g hi=>hno g (hI g hi) (h1 g hi),hno l hl h2,fun b o u hi e=>?_,h4⟩
 rw [hsi.imm b o (hI b hi) (h1 b hi)] at e
 exact h3 b o u hi e
def roundNorm (M:Nat) (T:Nat→PV) (F' : PS) (Ip:Prop) (σ' : PS):Prop:=Ip∧Sub M { σ' with t:=T } F'∧∀t,LowI (Kn σ') (T t)
def roundOut (M:Nat) (o:Nat) (L:List Nat) (T:Nat→PV) (Q:PS→Prop) (σ' : PS):Prop:=
 (∀t,LowI (Kn σ') (T t))∧∃G σe,Sub M { σ' with t:=T } G∧(∀i,Kn G i→i∈L)∧SubR (fun i=>i+o) (Kn σe) G σe∧Q σe
def RoundP (M:Nat) (o:Nat) (L:List Nat) (T:Nat→PV) (F' : PS) (Ip:Prop) (Q:Exit→PS→Prop):Exit→PS→Prop
 | .normal,σ' => roundNorm M T F' Ip σ'
 | .ret,σ' => roundOut M o L T (Q .ret) σ'
 | .exit i,σ' => roundOut M o L T (Q (.exit i)) σ'
 | .goto i,σ' => roundOut M o L T (Q (.goto i)) σ'
 |_,_=>False
def NormP (K:PS→Prop):Exit→PS→Prop
 | .normal,σ=>K σ
 |_,_=>False
theorem normP {K:PS→Prop} {σ:PS} (h:K σ):NormP K .normal σ:=h
theorem round_sound {r0:Loop} {ps:List Nat} {x:List PV} {vs:List Value} {F F' : PS} {Q:Exit→PS→Prop} {Ip:Prop} {o:Nat} {L:List Nat} {Φe:Imm} {Lb:Nat→Prop} (hLI:∀g,Lb g→I g) (hLo:∀g,Lb g→¬Old Φr W1 g) (hLl:¬Lb l)
  (hgivm:∀g,g < W1.heap.size→Mine Φr W1 g→g≠l→Mix Φe g) (himmr:Φr.imm=Φe) (hkn:∀i g,Φr.mu i=some g→Kn F i) (hmu:∀i,Kn F i→1000000≤i) (hlW:l < W1.heap.size) (hlold:¬Old Φr W1 l) (hmix:Mix Φe l)
  (hF:OwnsS F) (hps:∀p∈ps,p < M) (hpx:ps.length=x.length) (hx:∀p∈x,Low p∧p.ownB=false) {assign body:Code} (hassign:PW P M assign (NormP fun σ1=>PW P M body (RoundP M o L F.t F' Ip Q) σ1) { F with t:=setps F.t ps x })
  (hJ:CJ Φr W1 M a0 l F I K w) (hl:w.heap[l]? = some (.loop r0)) (hrs:r0.state = .ready) (hI:∀g,I g→(W1.heap.size≤g∨Lb g)∧g < w.heap.size) (hK:∀b o u,K b o=some u→w.cell? ⟨b,o,none⟩=some u) (hK1:∀b o,b < W1.heap.size→¬Lb b→K b o=Φe b o) (hK2:∀b o u,W1.heap.size≤b→K b o=some u→I b) (hrep:RepL K mu0 x vs) :
  assign.wpIn (FW (some l)) 0 P (Exit.then (fun a₁ w₁=>∃w₂,(Instr.beginRound l).run P w₁ = .ok () w₂∧body.wpIn (FW (some l)) 0 P (fun e a' w3=>(w3.heap[l]? = some (.loop { r0 with state:=.busy })∧Kept (fun g=>(I g∨(g < W1.heap.size∧¬Mix Φe g))) w w3∧(∀b o u,K b o=some u→w3.cell? ⟨b,o,none⟩=some u)) ∧
   (match e with
    | .normal=>Ip∧CJ Φr W1 M a0 l F' I K w3
    | .ret=>∃G σe,CJ Φr W1 M a0 l G I K w3∧(∀i,Kn G i→i∈L)∧SubR (fun i=>i+o) (Kn σe) G σe∧Q .ret σe
    | .exit i=>∃G σe,CJ Φr W1 M a0 l G I K w3∧(∀i,Kn G i→i∈L)∧SubR (fun i=>i+o) (Kn σe) G σe∧Q (.exit i) σe
    | .goto i=>∃G σe,CJ Φr W1 M a0 l G I K w3∧(∀i,Kn G i→i∈L)∧SubR (fun i=>i+o) (Kn σe) G σe∧Q (.goto i) σe
    |_=>False)) a₁ w₂) (fun _ _ _=>False))
   { tmps:=(ps.zip vs).foldl (fun t (p,v)=>t.setIfInBounds p v) a0.tmps,defers := [] } w:=by
 obtain ⟨Φp,μp,ωp,hgp,hc1,hc2,hc3,hc4⟩:=hJ
 -- what the iterator knows beside what is known
 let Φu:Imm:=fun b o=>(Φp b o).orElse fun _=>K b o
 have hue:∀b o u,Φu b o=some u→Φp b o=some u∨(Φp b o=none∧K b o=some u):=by
  intro b o u e
  have e' : ((Φp b o).orElse fun _=>K b o)=some u:=e
  cases hh:Φp b o with
  |some v=>rw [hh] at e'; left;simpa using e'
  |none=>rw [hh] at e'; right;exact ⟨rfl,by simpa using e'⟩
 have hup:∀b o u,Φp b o=some u→Φu b o=some u:=by
  intro b o u e
  show ((Φp b o).orElse fun _=>K b o)=some u
  rw [e];rfl
 have huK:∀b o u,K b o=some u→Φu b o=some u:=by
  intro b o u e
  show ((Φp b o).orElse fun _=>K b o)=some u
  cases hh:Φp b o with
  |none=>simpa using e
  |some v=>
   have e1:=hgp.imm b o v hh
   rw [hK b o u e] at e1
   simpa using e1.symm
 have hun:∀b o,¬I b→Φu b o=Φp b o:=by
  intro b o hi
  show ((Φp b o).orElse fun _=>K b o)=Φp b o
  cases hh:Φp b o with
  |some v=>rfl
  |none=>
   show K b o=none
   cases hk:K b o with
   |none=>rfl
   |some u=>
    rcases Nat.lt_or_ge b W1.heap.size with h' | h'
    ·rw [hK1 b o h' (fun hl=>hi (hLI b hl)),←himmr] at hk
     rw [(hgp.ext b o u hk).1] at hh;cases hh
    ·exact absurd (hK2 b o u h' hk) hi
 have hnI:∀b,Old Φr W1 b→¬I b:=fun b hb hi=>by
  rcases (hI b hi).1 with h' | h'
  ·have:=hb.1;omega
  ·exact hLo b h' hb
 have hIl:∀g,I g→g≠l:=fun g hi e=>by
  rcases (hI g hi).1 with h' | h'
  ·omega
  ·exact hLl (e ▸ h')
 have hg1:RelG Φr W1 M Φu μp ωp F a0 w:=hgp.grow hgp.below (fun b o u e=>(hue b o u e).elim (hgp.imm b o u) (fun h=>hK b o u h.2)) (fun b o hb=>hun b o (hnI b hb)) hup (fun g p e=>⟨rfl,fun j=>hun g j (fun hi=>hc1 g hi p e)⟩) (Nat.le_refl _)
 obtain ⟨ωm,hg2,hωm⟩:=hg1.mixed hF
 have hml:∀p,ωm l≠some p:=fun p e=>hc2 p (hωm l p e).1
 have hlw:l < w.heap.size:=Nat.lt_of_lt_of_le hlW hgp.below.size
 have hkn' : ∀i g,μp i=some g→Kn F i:=by
  intro i g e
  by_cases hk:Kn F i
  ·exact hk
  ·have:=PS.freeB_iff.1 (by simpa [Kn] using hk:F.freeB i=true)
   rw [hgp.gone i this.1 this.2] at e;cases e
 let Φk:Ent:=⟨Φu,fun g=>∃p,ωm g=some p,μp,hg2.glob,fun g ⟨p,e⟩=>(hωm g p e).2,[],some l⟩
 have hg3:=hg2.rebaseA (a':={ tmps:=a0.tmps,defers := [] }) (Φ1:=Φk) (W1:=w) rfl (Kept.refl _ _) ⟨rfl,fun l' e=>by cases e;exact ⟨⟨hlw,fun ⟨p,e⟩=>hml p e⟩,r0,hl⟩⟩ (fun b o hb=>rfl) (fun i g e=>hmu i (hkn' i g e)) (fun i g e _=>e) (fun b o u e=>⟨e,RelG.fresh hg2 e⟩) (fun g p e=>.inr ⟨p,e⟩)
 have hrep' : RepL Φu μp x vs:=⟨hrep.1,fun j p u h1 h2=>((hrep.2 j p u h1 h2).low (hx p (mem_of_get h1)).1).mono huK (fun _ _ e=>e)⟩
 have hg4:=RelG.puts ps x vs F _ hg3 hps hpx hrep' (fun p hp=>(hx p hp).2)
 refine wpIn_mono (hassign Φk w _ w ⟨_,_,_,hg4⟩) ?_
 rintro e a1 w1 ⟨σ1,Φ2,W2,hq,hl2,Φ',μ',ω',k1⟩
 cases e with
 |normal=>?_
 |_=>exact hq.elim
 have hs1:Kept (fun b=>b < w.heap.size∧∀p,ωm b≠some p) w w1:=(hl2.kept.trans (k1.below.mono hl2.old)).mono fun b hb=>⟨hb.1,fun ⟨p,e⟩=>hb.2 p e⟩
 have hl1:w1.heap[l]? = some (.loop r0):=(hs1.block l ⟨hlw,hml⟩).trans hl
 have hr2:Φ2.round=some l:=hl2.round
 refine ⟨_,run_beginRound hl1 hrs,?_⟩
 have k2:=k1.putRound (r':={ r0 with state:=.busy }) hr2 hl1
 have hω'l:∀p,ω' l≠some p:=(k1.rnd hr2).2.1
 have hbw:=hq _ _ _ _ ⟨_,_,_,k2⟩
 rw [show (k1.freshE Φ2.mu).round=some l from hr2] at hbw
 refine wpIn_mono hbw ?_
 rintro e a3 w3 ⟨σ',Φ3,W3,hq',hl3,Φ'',μ'',ω'',k3⟩
 have hsz1:w.heap.size≤w1.heap.size:=hs1.size
 have hω' : ∀g p,ω' g=some p→(∃q,ωm g=some q)∨w.heap.size≤g:=fun g p e=>(hl2.mine g (k1.mine g p e)).symm
 have hω'' : ∀g p,ω'' g=some p→(∃q,ωm g=some q)∨w.heap.size≤g:=by
  intro g p e
  rcases hl3.mine g (k3.mine g p e) with h' | ⟨q,h'⟩
  ·right
   have:w1.heap.size≤g:=by simpa using h'
   omega
  ·exact hω' g q h'
 have hs3:Kept (fun b=>b < w1.heap.size∧∀p,ω' b≠some p) (w1.putObj l (.loop { r0 with state:=.busy })) w3:=(hl3.kept.trans (k3.below.mono hl3.old)).mono fun b hb=>⟨by simpa using hb.1,fun ⟨p,e⟩=>hb.2 p e⟩
 have hb' : ∀b,b < w.heap.size→(∀p,ωm b≠some p)→∀p,ω' b≠some p:=fun b h1 h2 p e=>by
  rcases hω' b p e with ⟨q,hq⟩|hq
  ·exact h2 q hq
  ·omega
 have hs:Kept (fun b=>b < w.heap.size∧(∀p,ωm b≠some p)∧b≠l) w w3:=by
  refine ⟨hs3.os.trans hs1.os,hs3.tape.trans hs1.tape,hs3.output.trans hs1.output,Nat.le_trans hsz1 (by simpa using hs3.size),fun b hb=>?_⟩
  rw [hs3.block b ⟨Nat.lt_of_lt_of_le hb.1 hsz1,hb' b hb.1 hb.2.1⟩,World.putObj_heap_other hb.2.2]
  exact hs1.block b ⟨hb.1,hb.2.1⟩
 have hl3' : w3.heap[l]? = some (.loop { r0 with state:=.busy }):=by
  rw [hs3.block l ⟨Nat.lt_of_lt_of_le hlw hsz1,hω'l⟩]
  exact World.putObj_heap_same (Nat.lt_of_lt_of_le hlw hsz1)
 have hmu3:Φ3.mu=μp:=hl3.mu.trans hl2.mu
 have hsub:∀b o u,Φu b o=some u→Φ'' b o=some u:=by
  intro b o u e
  have e2:Φ2.imm b o=some u:=by rw [hl2.imm];exact e
  refine (k3.ext b o u ?_).1
  rw [hl3.imm]
  show freshI Φ2.imm Φ' ω' b o=some u
  by_cases hh:∃p,ω' b=some p
  ·rw [freshI_own hh];exact e2
  ·rw [freshI_eq fun p e=>hh ⟨p,e⟩];exact (k1.ext b o u e2).1
 have hold:∀b o,b < w.heap.size→(∀p,ωm b≠some p)→Φ'' b o=Φu b o:=by
  intro b o h1 h2
  have h3:=hb' b h1 h2
  have e1:Φ' b o=Φu b o:=by
   rw [k1.old b o (hl2.old b ⟨h1,fun ⟨p,e⟩=>h2 p e⟩),hl2.imm]
  have hlt:b < w1.heap.size:=Nat.lt_of_lt_of_le h1 hsz1
  rw [k3.old b o (hl3.old b ⟨by simpa using hlt,fun ⟨p,e⟩=>h3 p e⟩),hl3.imm]
  show freshI Φ2.imm Φ' ω' b o=_
  rw [freshI_eq h3,e1]
 have hWr:∀b,Old Φr W1 b→b < w.heap.size∧(∀p,ωm b≠some p)∧b≠l:=fun b hb=>
  ⟨Nat.lt_of_lt_of_le hb.1 hgp.below.size,fun p e=>hgp.noOld hb p (hωm b p e).1,fun e=>hlold (e ▸ hb)⟩
 have hcJ:(∀t,LowI (Kn σ') (F.t t))→CJ Φr W1 M a0 l { σ' with t:=F.t } I K w3:=by
  intro hlow
  have hgT:RelG Φr W1 M Φ'' μ'' ω'' { σ' with t:=F.t } a0 w3:=by
   refine ⟨hgp.below.trans (hs.mono hWr),hgp.defers,hgp.size,k3.imm,fun b o hb=>?_,fun t=>?_,fun t n k cs E e=>?_,fun id bs e=>?_,k3.gone,k3.lt,hgp.gmu,fun i g e hi=>?_,fun b o u e=>?_,fun id X e=>?_,fun g p e=>?_⟩
   ·obtain ⟨q1,q2,-⟩:=hWr b hb
    rw [hold b o q1 q2,hun b o (hnI b hb)]
    exact hgp.old b o hb
   ·refine ((hgp.tmps t).mono hup (fun _ _ e=>e)).lowI (hlow t) (fun i hi g e=>?_) |>.mono hsub (fun _ _ e=>e)
    exact k3.kmu i g (by rw [hmu3];exact e) hi.spec
   ·have h':=hF.t t
    have e' : F.t t = .sl n k cs (some E):=e
    rw [e'] at h'
    simp [PV.ownB] at h'
   ·exact (k3.box id bs e).inB (fun g q _ e=>by
     rcases hω'' g q e with ⟨q',hq'⟩|hq'
     ·exact hgp.mine g q' (hωm g q' hq').1
     ·exact .inl (Nat.le_trans hgp.below.size hq'))
   ·have hkF:=hkn i g e
    exact k3.kmu i g (by rw [hmu3];exact hgp.kmu i g e hkF.spec) hi
   ·have h':=hgp.ext b o u e
    exact ⟨hsub b o u (hup b o u h'.1),h'.2⟩
   ·exact (k3.map id X e).inB (fun g q _ e=>by
     rcases hω'' g q e with ⟨q',hq'⟩|hq'
     ·exact hgp.mine g q' (hωm g q' hq').1
     ·exact .inl (Nat.le_trans hgp.below.size hq'))
   ·rcases hω'' g p e with ⟨q',hq'⟩|hq'
    ·exact hgp.mine g q' (hωm g q' hq').1
    ·exact .inl (Nat.le_trans hgp.below.size hq')
  have hnω:∀g,g < w.heap.size→(∀p,ωp g≠some p)→∀p,ω'' g≠some p:=fun g h1 h2 p e=>by
   rcases hω'' g p e with ⟨q,hq⟩|hq
   ·exact h2 q (hωm g q hq).1
   ·omega
  refine ⟨Φ'',μ'',ω'',hgT,fun g hi=>hnω g (hI g hi).2 (hc1 g hi),hnω l hlw hc2,fun b o u hi e=>?_,fun g hi=>⟨fun ho=>hnI g ho hi,hIl g hi⟩⟩
  rw [hold b o (hI b hi).2 (fun p e=>hc1 b hi p (hωm b p e).1)] at e
  rcases hue b o u e with h' | h'
  ·exact hc3 b o u hi h'
  ·exact h'.2
 have hlw3:l < w3.heap.size:=Nat.lt_of_lt_of_le hlw hs.size
 have hIw3:∀g,I g→g < w3.heap.size:=fun g hi=>Nat.lt_of_lt_of_le (hI g hi).2 hs.size
 refine ⟨⟨hl3',hs.mono fun g hg=>?_,fun b o u e=>k3.imm b o u (hsub b o u (huK b o u e))⟩,?_⟩
 ·rcases hg with hi|⟨h1,h2⟩
  ·exact ⟨(hI g hi).2,fun p e=>hc1 g hi p (hωm g p e).1,hIl g hi⟩
  ·have hgl:g≠l:=by rintro rfl;exact h2 hmix
   exact ⟨Nat.lt_of_lt_of_le h1 hgp.below.size,fun p e=>h2 (hgivm g h1 (hgp.mine g p (hωm g p e).1) hgl),hgl⟩
 ·have hout:∀Q0:PS→Prop,roundOut M o L F.t Q0 σ'→∃G σe,CJ Φr W1 M a0 l G I K w3∧(∀i,Kn G i→i∈L)∧SubR (fun i=>i+o) (Kn σe) G σe∧Q0 σe:=by
   rintro Q0 ⟨h1,G,σe,h2,h3,h4,h5⟩
   exact ⟨G,σe,(hcJ h1).sub h2 hlw3 hIw3,h3,h4,h5⟩
  cases e with
  |normal=>exact ⟨hq'.1,(hcJ hq'.2.2).sub hq'.2.1 hlw3 hIw3⟩
  |ret=>exact hout _ hq'
  |exit i=>exact hout _ hq'
  |goto i=>exact hout _ hq'
  |panic ch=>exact hq'.elim
  |outgrown=>exact hq'.elim
end
section
open Go.RowKit
variable {M:Nat} {Q:Exit→PS→Prop} {σ:PS} {P:Program}
theorem enter_run {Φ0:Ent} {W:World} {Φ:Imm} {μ:Nat→Option Nat} {ω:Nat→Option Who} {a:Act} {w:World} (h:RelG Φ0 W M Φ μ ω σ a w) (fn:FuncId) (ps:Array Tmp) (assign body:Code) :
  ∃(l:Nat) (ms:List Nat) (df:Nat) (W1:World),(Instr.enterLoop fn a.tmps ps assign body (FW Φ0.round).round).run P w = .ok (l,ms.map collD) W1∧W1.heap[l]? = some (.loop { state:=.ready,pending:=none,fn,tmps:=a.tmps,params:=ps,assign,body,defers:=df })∧w.heap.size≤l∧Kept (fun b=>b < w.heap.size) w W1∧ms.Nodup ∧
   ∀m∈ms,w.heap.size≤m∧m < W1.heap.size∧m≠l∧W1.heap[m]? = some (.deferred (some [])):=by
 show ∃(l:Nat) (ms:List Nat) (df:Nat) (W1:World),(Instr.enterLoop fn a.tmps ps assign body Φ0.round).run P w=_∧_
 cases hro:Φ0.round with
 |none=>
  refine ⟨w.heap.size+1,[w.heap.size],w.heap.size,_,run_enterLoop_outer _ _ _ _ _,?_,by omega,⟨rfl,rfl,rfl,by simp;omega,fun k hk=>?_⟩,by simp,fun m hm=>?_⟩
  ·have:=World.alloc_heap_new (w.alloc (.deferred (some []))) (.loop { state:=.ready,pending:=none,fn,tmps:=a.tmps,params:=ps,assign,body,defers:=w.heap.size })
   rwa [World.size_alloc] at this
  ·rw [Below.heap_alloc _ _ _ (by simp;omega),Below.heap_alloc _ _ _ hk]
  ·have:m=w.heap.size:=by simpa using hm
   subst this
   refine ⟨Nat.le_refl _,by simp;omega,by omega,?_⟩
   exact (Below.heap_alloc _ _ _ (by simp)).trans (World.alloc_heap_new w _)
 |some l0=>
  obtain ⟨q1,q2,r,q3⟩:=h.rnd hro
  refine ⟨w.heap.size,[],r.defers,w.alloc (.loop { state:=.ready,pending:=none,fn,tmps:=a.tmps,params:=ps,assign,body,defers:=r.defers }),?_,World.alloc_heap_new w _,Nat.le_refl _,⟨rfl,rfl,rfl,by simp,fun k hk=>Below.heap_alloc _ _ _ hk⟩,by simp,fun m hm=>by cases hm⟩
  unfold Instr.enterLoop
  simp only [Sem.run_bind,run_getLoop q3,Result.andThen,Sem.run_pure,run_newObj_alloc]
  rfl
def putps (σ:PS):List Nat→List PV→PS
 |p :: ps,x :: xs=>putps (σ.put p x) ps xs
 |_,_=>σ
theorem putps_eq:∀(ps:List Nat) (xs:List PV) (σ:PS),{ σ with t:=setps σ.t ps xs } = putps σ ps xs
 | [],_,_=>rfl
 |_ :: _,[],_=>rfl
 |p :: ps,x :: xs,σ=>putps_eq ps xs (σ.put p x)
theorem lowT_bot {S:Nat→Prop} : ∀t,LowI S (bot.t t):=fun _=>.undef
theorem lowT_put {S:Nat→Prop} {σ:PS} {d:Nat} {p:PV} (h:∀t,LowI S (σ.t t)) (hp:LowI S p):∀t,LowI S ((σ.put d p).t t):=by
 intro t
 simp only [PS.put,upd_if]
 split
 ·exact hp
 ·exact h t
theorem lowT_setb {S:Nat→Prop} {σ:PS} {d:Nat} {bs:List PV} (h:∀t,LowI S (σ.t t)):∀t,LowI S ((σ.setb d bs).t t):=h
theorem lowT_setm {S:Nat→Prop} {σ:PS} {d:Nat} {X:PMap} (h:∀t,LowI S (σ.t t)):∀t,LowI S ((σ.setm d X).t t):=h
theorem roundP {o:Nat} {L:List Nat} {T:Nat→PV} {F' : PS} {Ip:Prop} (h1:Ip) (h2:Sub M { σ with t:=T } F') (h3:∀t,LowI (Kn σ) (T t)):RoundP M o L T F' Ip Q .normal σ:=⟨h1,h2,h3⟩
def PS.addG (σ:PS) (given:List (Nat×List PV)) (gm:List (Nat×PMap)):PS:={ t:=σ.t,b:=given.foldl (fun b x=>upd b x.1 (some x.2)) σ.b,m:=gm.foldl (fun b x=>upd b x.1 (some x.2)) σ.m }
open Classical in
theorem RelG.addG {Φ0:Ent} {W:World} {Φ:Imm} {μ:Nat→Option Nat} {ω:Nat→Option Who} {a:Act} {w:World} (h:RelG Φ0 W M Φ μ ω σ a w) {given:List (Nat×List PV)} {gm:List (Nat×PMap)} {K:Imm} {μg:Nat→Option Nat} {ωg:Nat→Option Who} (hok:LentOK given gm)
  (hgb:∀x∈given,BoxAt (fun _=>True) K μg ωg w x.1 x.2) (hgm:∀x∈gm,MapAt (fun _=>True) K μg ωg w x.1 x.2) (hK:∀b o u,K b o=some u→w.cell? ⟨b,o,none⟩=some u) (hfree:∀i∈ResIds given gm,¬Kn σ i)
  (hkmu:∀i∈ResIds given gm,∀g,Φ0.mu i=some g→μg i=some g) (hmine:∀g,LentB μg (ResIds given gm) g→Mine Φ0 W g) (hold:∀b o u,Old Φ0 W b→K b o=some u→Φ b o=some u)
  (hωL:∀g,LentB μg (ResIds given gm) g→∀p,ω g≠some p) (hωK:∀g p,ω g=some p→∀j u,K g j=some u→Φ g j=some u) (hΦL:∀g,LentB μg (ResIds given gm) g→∀j,Φ g j=none):Rel Φ0 W M (σ.addG given gm) a w:=by
 have hnd1:(given.map (·.1)).Nodup∧(gm.map (·.1)).Nodup:=by have:=hok.nd;unfold ResIds at this;rw [List.nodup_append] at this;exact ⟨this.1,this.2.1⟩
 have hdisj:∀i,i∈given.map (·.1)→i∈gm.map (·.1)→False:=by have:=hok.nd;unfold ResIds at this;rw [List.nodup_append] at this;exact fun i h1 h2=>this.2.2 i h1 i h2 rfl
 have hfr:∀i∈ResIds given gm,σ.b i=none∧σ.m i=none:=fun i hi=>PS.freeB_iff.1 (by simpa [Kn] using hfree i hi)
 let Φm:Imm:=fun b o=>(Φ b o).orElse fun _=>K b o
 let μm:Nat→Option Nat:=fun i=>if i∈ResIds given gm then μg i else μ i
 let ωm:Nat→Option Who:=fun g=>if LentB μg (ResIds given gm) g then ωg g else ω g
 have hue:∀b o u,Φm b o=some u→Φ b o=some u∨(Φ b o=none∧K b o=some u):=by
  intro b o u e
  have e' : ((Φ b o).orElse fun _=>K b o)=some u:=e
  cases hh:Φ b o with
  |some v=>rw [hh] at e'; left;simpa using e'
  |none=>rw [hh] at e'; right;exact ⟨rfl,by simpa using e'⟩
 have hup:∀b o u,Φ b o=some u→Φm b o=some u:=by
  intro b o u e
  show ((Φ b o).orElse fun _=>K b o)=some u
  rw [e];rfl
 have huK:∀b o u,K b o=some u→Φm b o=some u:=by
  intro b o u e
  show ((Φ b o).orElse fun _=>K b o)=some u
  cases hh:Φ b o with
  |none=>simpa using e
  |some v=>
   have e1:=h.imm b o v hh
   rw [hK b o u e] at e1
   simpa using e1.symm
 have hsame:∀b o,(∀u,K b o=some u→Φ b o=some u)→Φm b o=Φ b o:=by
  intro b o hh
  show ((Φ b o).orElse fun _=>K b o)=Φ b o
  cases h1:Φ b o with
  |some v=>rfl
  |none=>
   show K b o=none
   cases h2:K b o with
   |none=>rfl
   |some u=>rw [hh u h2] at h1;cases h1
 have hμm:∀i g,μ i=some g→μm i=some g:=by
  intro i g e
  show (if _ then _ else _)=_
  split
  ·rename_i hi
   obtain ⟨h1,h2⟩:=hfr i hi
   rw [h.gone i h1 h2] at e;cases e
  ·exact e
 have hμG:∀i,i∈ResIds given gm→∀g,μg i=some g→μm i=some g:=fun i hi g e=>by show (if _ then _ else _)=_;rw [if_pos hi];exact e
 have hωm:∀g p,ω g=some p→ωm g=some p:=by
  intro g p e
  show (if _ then _ else _)=_
  split
  ·rename_i hg;exact absurd e (hωL g hg p)
  ·exact e
 have hlent:=fun {g:Nat} (hg:LentB μg (ResIds given gm) g)=>lentB_of hgb hgm hg
 have hωG:∀i,i∈ResIds given gm→∀g,μg i=some g→ωg g=some (.box i)→ωm g=some (.box i)∧Mine Φ0 W g:=by
  intro i hi g e1 e2
  have hg:LentB μg (ResIds given gm) g:=⟨i,hi,e1⟩
  refine ⟨?_,hmine g hg⟩
  show (if _ then _ else _)=_
  rw [if_pos hg];exact e2
 have hωc:∀g p,ωm g=some p→(LentB μg (ResIds given gm) g∧ωg g=some p)∨ω g=some p:=by
  intro g p e
  have e' : (if LentB μg (ResIds given gm) g then ωg g else ω g)=some p:=e
  split at e'
  ·rename_i hg;exact .inl ⟨hg,e'⟩
  ·exact .inr e'
 have hkeep:KeptBy (fun _=>True) Φ Φm ω ωm w w:=fun q _ g e=>⟨rfl,fun j=>hsame g j (fun u=>hωK g q e j u),hωm g q e⟩
 have hgivenK:∀i,i∈ResIds given gm→∀g,μg i=some g→∀j,Φm g j=none:=by
  intro i hi g e j
  obtain ⟨g',h1,-,h3,-⟩:=lentB_at hgb hgm hi
  rw [e] at h1;cases h1
  cases hh:Φm g j with
  |none=>rfl
  |some u=>
   rcases hue g j u hh with h' | h'
   ·rw [hΦL g ⟨i,hi,e⟩] at h'; cases h'
   ·rw [h3] at h'; cases h'.2
 have hb1:∀(id:Nat) (bs:List PV),(id,bs)∈given→BoxAt (Mine Φ0 W) Φm μm ωm w id bs:=by
  intro id bs h1
  have hi:id∈ResIds given gm:=List.mem_append.2 (.inl (List.mem_map.2 ⟨_,h1,rfl⟩))
  obtain ⟨g,cur,T,k1,k2,k3,k4,k5,k6,k7⟩:=(hgb _ h1).lent (S:=fun i=>i∈ResIds given gm) (B':=Mine Φ0 W) (ω':=ωm) hi (hok.lowb _ h1) (hok.nob _ h1) hμG (fun g e1 e2=>hωG id hi g e1 e2)
  refine ⟨g,cur,T,k1,k2,k3,k4,fun j=>hgivenK id hi g ?_ j,k6,fun j c hc=>?_⟩
  ·have k1' : (if id∈ResIds given gm then μg id else μ id)=some g:=k1
   rwa [if_pos hi] at k1'
  ·obtain ⟨u,r1,r2,r3,-⟩:=k7 j c hc
   exact ⟨u,r1,r2,r3.mono huK (fun _ _ e=>e),fun n k cs E e=>by have:=hok.nob _ h1 c (mem_of_get hc);rw [e] at this;simp [PV.ownB] at this⟩
 have hm1:∀(id:Nat) (X:PMap),(id,X)∈gm→MapAt (Mine Φ0 W) Φm μm ωm w id X:=by
  intro id X h1
  have hi:id∈ResIds given gm:=List.mem_append.2 (.inr (List.mem_map.2 ⟨_,h1,rfl⟩))
  obtain ⟨g,k1,k2,k3,k4,k5⟩:=(hgm _ h1).lent (S:=fun i=>i∈ResIds given gm) (B':=Mine Φ0 W) (ω':=ωm) hi (hok.lowm _ h1) (hok.nom _ h1) hμG (fun g e1 e2=>hωG id hi g e1 e2)
  have k1' : μg id=some g:=by
   have k1' : (if id∈ResIds given gm then μg id else μ id)=some g:=k1
   rwa [if_pos hi] at k1'
  refine ⟨g,k1,k2,k3,fun j=>hgivenK id hi g k1' j,?_⟩
  cases X with
  |map es clock=>
   obtain ⟨e0,ents,e1,e2,e3⟩:=k5
   refine ⟨e0,ents,e1,e2,fun j s k c hj=>?_⟩
   obtain ⟨e,f1,f2,f3,f4,f5⟩:=e3 j s k c hj
   exact ⟨e,f1,f2,f3.mono huK (fun _ _ e=>e),f4.mono huK (fun _ _ e=>e),fun n kk cs E ec=>by have:=hok.nom _ h1 es clock rfl _ (mem_of_get hj);simp only [ec] at this;simp [PV.ownB] at this⟩
  |iter mid since seen last=>
   obtain ⟨gm',e1,e2⟩:=k5
   exact ⟨gm',e1,e2⟩
 refine ⟨Φm,μm,ωm,h.below,h.defers,h.size,fun b o u e=>(hue b o u e).elim (h.imm b o u) (fun h=>hK b o u h.2),fun b o hb=>(hsame b o (fun u=>hold b o u hb)).trans (h.old b o hb),fun t=>(h.tmps t).mono hup hμm,fun t n k cs E e=>(h.own t n k cs E e).step (fun g eg=>hkeep _ trivial g eg),fun id bs e=>?_,fun id eb em=>?_,fun g p e=>?_,h.gmu,fun id g e hi=>?_,fun b o u e=>⟨hup _ _ _ (h.ext b o u e).1,(h.ext b o u e).2⟩,fun id X e=>?_,fun g p e=>?_⟩
 ·rcases setb_cases given _ hnd1.1 e with h1|⟨-,h1⟩
  ·exact hb1 id bs h1
  ·exact (h.box id bs h1).step hup hμm (fun q hq g e=>hkeep q trivial g e)
 ·have hi:id∉ResIds given gm:=by
   intro hi
   rcases List.mem_append.1 hi with hi|hi
   ·obtain ⟨x,hx,rfl⟩:=List.mem_map.1 hi
    simp only [PS.addG] at eb
    rw [setb_get given _ hnd1.1 x hx] at eb;cases eb
   ·obtain ⟨x,hx,rfl⟩:=List.mem_map.1 hi
    simp only [PS.addG] at em
    rw [setb_get gm _ hnd1.2 x hx] at em;cases em
  show (if _ then _ else _)=_
  rw [if_neg hi]
  refine h.gone id ?_ ?_
  ·cases hs:σ.b id with
   |none=>rfl
   |some bs=>
    simp only [PS.addG] at eb
    rw [setb_not given σ.b (fun hh=>hi (List.mem_append.2 (.inl hh))),hs] at eb;cases eb
  ·cases hs:σ.m id with
   |none=>rfl
   |some bs=>
    simp only [PS.addG] at em
    rw [setb_not gm σ.m (fun hh=>hi (List.mem_append.2 (.inr hh))),hs] at em;cases em
 ·rcases hωc g p e with ⟨hg,-⟩|h'
  ·obtain ⟨i,-,-,-,-,h5⟩:=hlent hg
   exact h5
  ·exact h.lt g p h'
 ·show (if _ then _ else _)=_
  split
  ·rename_i hh;exact hkmu id hh g e
  ·rename_i hh
   refine h.kmu id g e ?_
   rcases hi with hi|hi
   ·left
    simp only [PS.addG] at hi
    rwa [setb_not given σ.b (fun hh' => hh (List.mem_append.2 (.inl hh')))] at hi
   ·right
    simp only [PS.addG] at hi
    rwa [setb_not gm σ.m (fun hh' => hh (List.mem_append.2 (.inr hh')))] at hi
 ·rcases setb_cases gm _ hnd1.2 e with h1|⟨-,h1⟩
  ·exact hm1 id X h1
  ·exact (h.map id X h1).step hup hμm (fun q hq g e=>hkeep q trivial g e)
 ·rcases hωc g p e with ⟨hg,-⟩|h'
  ·exact hmine g hg
  ·exact h.mine g p h'
open Classical in
theorem PW.rangeFuncG {g:Operand} {ps:Array Tmp} {assign body:Code} {f:FuncId} {caps:List PV} {given:List (Nat×List PV)} {gm:List (Nat×PMap)} {A S:List (List PV)→Prop} (o:Nat) (L:List Nat) (F:List (List PV)→PS) (I0:List (List PV)→Prop) (hI0:I0 [])
  (hg:pev σ g = .fn f caps) (hf:Nat.blt f 1000000=true) (hit:ItSpecG P f caps given gm A S) (hok:LentOK given gm) (hgivb:AllB σ (fun _=>true) given) (hgivmm:AllM σ (fun _=>true) gm) (hfar:∀i∈ResIds given gm,i+o∉L) (hin:SubR (fun i=>i - o) (Kn (F [])) σ (F []))
  (hk1:∀pre i,Kn (F pre) i→i∈L) (hk2:∀pre,∀i∈L,Kn (F pre) i) (hL:L.all (fun i=>Nat.ble o i)=true) (ho:1000000≤o) (hF:∀pre,OwnsS (F pre)) (hps:∀p∈ps.toList,p < M)
  (hx:∀pre x,A (pre ++ [x])→ps.toList.length=x.length∧∀p∈x,Low p∧p.ownB=false)
  (round:∀pre x,I0 pre→A (pre ++ [x])→PW P M assign (NormP fun σ1=>PW P M body (RoundP M o L (F pre).t (F (pre ++ [x])) (I0 (pre ++ [x])) (fun e σe=>(∀i∈ResIds given gm,¬Kn σe i)∧Q e (σe.addG given gm))) σ1) (putps (F pre) ps.toList x))
  (done:∀xs,S xs→I0 xs→∃σe,SubR (fun i=>i+o) (Kn σe) (F xs) σe∧(∀i∈ResIds given gm,¬Kn σe i)∧Q .normal (σe.addG given gm)):PW P M (.rangeFunc g ps assign body) Q σ:=by
 intro Φ0 W a w ⟨Φ,μ,ω,hg0⟩
 refine wpIn_rangeFunc ?_
 intro fn hfn
 obtain ⟨l,ms,df,W1,hent,hl1,hlw,hkW,hnd,hms⟩:=enter_run (P:=P) hg0 fn ps assign body
 obtain ⟨rec,hrec⟩:∃rec:LoopState→Option Code→Loop,rec=fun st pe=>{ state:=st,pending:=pe,fn,tmps:=a.tmps,params:=ps,assign,body,defers:=df }:=⟨_,rfl⟩
 have hl1' : W1.heap[l]? = some (.loop (rec .ready none)):=by rw [hrec];exact hl1
 have hlW:l < W1.heap.size:=(Array.getElem?_eq_some_iff.1 hl1).1
 -- the iterator's value
 have hev:=hg0.ev g
 rw [hg] at hev
 have hlt:f < 1000000:=by simpa [Nat.blt_eq] using hf
 obtain ⟨us,hgv,hus⟩:∃us:List Value,a.eval g = .func (.func f) #[] us.toArray∧RepL Φ μ caps us:=by
  obtain ⟨us,e1,e2⟩:=hev.fn_inv
  refine ⟨us,?_,e2⟩
  rw [e1]
  unfold fnV
  rw [if_pos hlt]
 -- the caller's memory,under high numbers
 have hnum:∀i,Kn (F []) i→o≤i:=fun i hi=>Nat.le_of_ble_eq_true (List.all_eq_true.1 hL i (hk1 [] i hi))
 have hA:=hg0.fresh0 (mu:=fun _=>none) (fun _ _ e=>by cases e) (fun _ _ e=>by cases e)
 have hB:=hin.rel (fun i hi=>hi.spec) (fun i j hi hj e=>by have:=hnum i hi;have:=hnum j hj;have e' : i - o=j - o:=e;omega) (fun i hi g e=>by cases e) hA
 generalize hμ1:(fun i=>if Kn (F []) i then μ (i - o) else none)=μ1 at hB
 generalize hω1:(fun g=>unren (fun i=>i - o) (Kn (F [])) (ω g))=ω1 at hB
 obtain ⟨ω2,hC,hω2⟩:=hB.mixed (hF [])
 have hω:∀g p,ω2 g=some p→(∃q,ω g=some q)∧Mix Φ g∧g < w.heap.size:=by
  intro g p e
  have hlt':=hC.lt g p e
  rcases hC.mine g p e with h' | h'
  ·omega
  ·exact ⟨h',(hω2 g p e).2,hlt'⟩
 have hD:RelG (hg0.freshE fun _=>none) w M Φ μ1 ω2 (F []) a W1:=by
  refine hC.grow (hC.below.trans (hkW.mono fun b hb=>hb.1)) (fun b o u e=>?_) (fun _ _ _=>rfl) (fun _ _ _ e=>e) (fun g p e=>⟨hkW.block g (hω g p e).2.2,fun _=>rfl⟩) hkW.size
  have:=hg0.imm b o u e
  simp only [World.cell?] at this ⊢
  rw [hkW.block b (RelG.fresh hg0 e)];exact this
 have hω2l:∀p,ω2 l≠some p:=fun p e=>by have:=(hω l p e).2.2;omega
 have hΦl:∀j,Φ l j=none:=fun j=>by
  cases hh:Φ l j with
  |none=>rfl
  |some u=>have:=RelG.fresh hg0 hh;omega
 have hmixl:Mix Φ l:=fun o u e=>by rw [hΦl] at e;cases e
 -- what is lent
 have hgb0:∀x∈given,BoxAt (Mine Φ0 W) Φ μ ω w x.1 x.2:=fun x hx=>hg0.box x.1 x.2 (hgivb.mem x hx).2
 have hgm0:∀x∈gm,MapAt (Mine Φ0 W) Φ μ ω w x.1 x.2:=fun x hx=>hg0.map x.1 x.2 (hgivmm.mem x hx).2
 have hlent:=fun {g:Nat} (hg:LentB μ (ResIds given gm) g)=>lentB_of hgb0 hgm0 hg
 have hkG:∀i∈ResIds given gm,σ.b i≠none∨σ.m i≠none:=by
  intro i hi
  rcases List.mem_append.1 hi with hi|hi
  ·obtain ⟨x,hx,rfl⟩:=List.mem_map.1 hi
   left;rw [(hgivb.mem x hx).2];simp
  ·obtain ⟨x,hx,rfl⟩:=List.mem_map.1 hi
   right;rw [(hgivmm.mem x hx).2];simp
 have hLmix:∀g,LentB μ (ResIds given gm) g→Mix Φ g:=fun g hg=>by
  obtain ⟨i,-,-,-,h4,-⟩:=hlent hg
  intro o u e;rw [h4] at e;cases e
 have hLω2:∀g,LentB μ (ResIds given gm) g→∀p,ω2 g≠some p:=by
  intro g hg p e
  obtain ⟨i,hi,-,h3,-⟩:=hlent hg
  have e1:=(hω2 g p e).1
  rw [←hω1] at e1
  have e2:unren (fun i=>i - o) (Kn (F [])) (ω g)=some p:=e1
  rw [h3] at e2
  unfold unren at e2
  split at e2
  ·rename_i h2;cases h2
  ·split at e2
   ·rename_i hh
    obtain ⟨q,⟨j,hj,hq⟩,e⟩:=hh
    rcases hq with rfl|⟨y,rfl⟩
    ·simp only [renW,Option.some.injEq,Who.box.injEq] at e
     have hjo:=hnum j hj
     refine hfar i hi ?_
     rw [e,Nat.sub_add_cancel hjo]
     exact hk1 [] j hj
    ·simp [renW] at e
   ·cases e2
 let Φr:Ent:=⟨Φ,fun g=>(∃p,ω2 g=some p)∨(g=l∨LentB μ (ResIds given gm) g),μ1,hg0.glob,fun g hg' => hg'.elim (fun ⟨p,e⟩=>(hω g p e).2.1) (fun e=>e.elim (fun e=>e ▸ hmixl) (hLmix g)),ms ++ Φ0.marks,Φ0.round⟩
 let a0:Act:={ a with defers:=ms.map collD ++ a.defers }
 have hμk:∀i g,μ1 i=some g→Kn (F []) i∧μ (i - o)=some g:=by
  intro i g e
  rw [←hμ1] at e
  have e' : (if Kn (F []) i then μ (i - o) else none)=some g:=e
  split at e'
  ·rename_i hk;exact ⟨hk,e'⟩
  ·cases e'
 have hR:RelG Φr W1 M Φ μ1 ω2 (F []) a0 W1:=by
  refine hD.rebaseA rfl (Kept.refl _ _) ⟨?_,fun l0 e=>?_⟩ (fun b o hb=>rfl) (fun i g e=>Nat.le_trans ho (hnum i (hμk i g e).1)) (fun i g e _=>e) (fun b o u e=>⟨e,Nat.lt_of_lt_of_le (RelG.fresh hg0 e) hkW.size⟩) (fun g p e=>.inr (.inl ⟨p,e⟩))
  ·show ms.map collD ++ a.defers=(ms ++ Φ0.marks).map collD
   rw [hg0.defers.1,List.map_append]
  ·obtain ⟨q1,q2,r,q3⟩:=hg0.rnd e
   refine ⟨⟨Nat.lt_of_lt_of_le q1 hkW.size,fun hh=>?_⟩,r,(hkW.block l0 q1).trans q3⟩
   rcases hh with ⟨p,hp⟩|rfl|hh
   ·obtain ⟨⟨q,hq⟩,-⟩:=hω l0 p hp;exact q2 q hq
   ·omega
   ·obtain ⟨i,-,-,h3,-⟩:=hlent hh;exact q2 _ h3
 have hlold:¬Old Φr W1 l:=fun hh=>hh.2 (.inr (.inl rfl))
 have hLold:∀g,LentB μ (ResIds given gm) g→¬Old Φr W1 g:=fun g hg hh=>hh.2 (.inr (.inr hg))
 have hLlt:∀g,LentB μ (ResIds given gm) g→g < w.heap.size:=fun g hg=>by obtain ⟨i,-,-,-,-,h5⟩:=hlent hg;exact h5
 have hLl:¬LentB μ (ResIds given gm) l:=fun hg=>by have:=hLlt l hg;omega
 -- what is known of the caller's memory
 let Out:Code→PS→PS→Prop:=fun c G σe=>(∀i,Kn G i→i∈L)∧SubR (fun i=>i+o) (Kn σe) G σe∧(∀i∈ResIds given gm,¬Kn σe i)∧(match c with | .ret=>Q .ret (σe.addG given gm) | .exit i=>Q (.exit i) (σe.addG given gm) | .goto i=>Q (.goto i) (σe.addG given gm)|_=>False)
 let J:Come→(Nat→Prop)→Imm→World→Prop:=fun κ I K w' => l < w'.heap.size∧match κ with
  |some pre=>I0 pre∧w'.heap[l]? = some (.loop (rec .ready none))∧CJ Φr W1 M a0 l (F pre) I K w'
  |none=>∃c G σe,Out c G σe∧w'.heap[l]? = some (.loop (rec .done (some c)))∧CJ Φr W1 M a0 l G I K w'
 let E:ItEnv:=⟨J,fun {κ I I' K K' w1 w2} hJ hk hI hK hc=>by
  obtain ⟨hlt',hJ⟩:=hJ
  have hnl:∀{G:PS},CJ Φr W1 M a0 l G I K w1→w2.heap[l]? = w1.heap[l]?:=fun hcj=>hk.block l ⟨hlt',fun hi=>by obtain ⟨_,_,_,_,_,_,_,h4⟩:=hcj;exact (h4 l hi).2 rfl⟩
  refine ⟨Nat.lt_of_lt_of_le hlt' hk.size,?_⟩
  cases κ with
  |some pre=>exact ⟨hJ.1,(hnl hJ.2.2).trans hJ.2.1,hJ.2.2.step hlt' hk hI hK hc⟩
  |none=>
   obtain ⟨c,G,σe,h1,h2,h3⟩:=hJ
   exact ⟨c,G,σe,h1,(hnl h3).trans h2,h3.step hlt' hk hI hK hc⟩⟩
 have hJ0:E.J (some []) (LentB μ (ResIds given gm)) Φ W1:=⟨hlW,hI0,hl1',Φ,μ1,ω2,hR,hLω2,hω2l,fun b o u h e=>e,fun g h=>⟨hLold g h,fun e=>hLl (e ▸ h)⟩⟩
 have hY:YOK P E l A Φ (LentB μ (ResIds given gm)) W1.heap.size:=by
  intro pre x I K w1 vs hAx hJ hI hLI hK hK1 hK2 hKg hrep
  obtain ⟨hlt',hip,hlr,hcj⟩:=hJ
  obtain ⟨hxl,hxx⟩:=hx pre x hAx
  have hy:=run_yield (P:=P) (args:=vs.toArray) hlr (by rw [hrec];have:=hrep.1;simp at hxl ⊢; omega)
  rw [hrec] at hy
  refine ⟨fn,_,assign,body,hy,?_⟩
  have hrs:=round_sound (Φe:=Φ) (r0:=rec .ready none) (Lb:=LentB μ (ResIds given gm)) hLI hLold hLl (Q:=fun e σe=>(∀i∈ResIds given gm,¬Kn σe i)∧Q e (σe.addG given gm)) (o:=o) (L:=L) (F:=F pre) (F':=F (pre ++ [x])) (ps:=ps.toList) (x:=x) (fun g h1 h2 h3=>by
    rcases h2 with h2|h2
    ·omega
    ·exact Φr.fl g h2) rfl (fun i g e=>hk2 pre i (hk1 [] i (hμk i g e).1)) (fun i hi=>Nat.le_trans ho (Nat.le_of_ble_eq_true (List.all_eq_true.1 hL i (hk1 pre i hi)))) hlW hlold hmixl (hF pre) hps hxl hxx (by rw [putps_eq];exact round pre x hip hAx) hcj hlr (by rw [hrec]) hI hK hK1 hK2 hrep
  have htm:(ps.zip vs.toArray).foldl (fun tmps (t,a)=>tmps.setIfInBounds t a) a.tmps=(ps.toList.zip vs).foldl (fun t (p,v)=>t.setIfInBounds p v) a0.tmps:=by
   rw [←Array.foldl_toList,Array.toList_zip]
  refine roundIn_of_wpIn trivial ?_
  simp only
  rw [htm]
  refine wpIn_mono hrs ?_
  rintro e a1 w2 hq
  cases e with
  |normal=>?_
  |_=>exact hq
  obtain ⟨w3,hbr,hbody⟩:=hq
  refine ⟨w3,hbr,wpIn_mono hbody ?_⟩
  rintro e a3 w4 ⟨⟨hl4,hk4,hK4⟩,hq⟩
  have hl4' : l < w4.heap.size:=(Array.getElem?_eq_some_iff.1 hl4).1
  have hnl:∀g,(I g∨(g < W1.heap.size∧¬Mix Φ g))→g≠l:=by
   rintro g (hi|⟨-,h2⟩) rfl
   ·rcases (hI g hi).1 with h' | h'
    ·omega
    ·exact hLl h'
   ·exact h2 hmixl
  have fin:∀(jump:Option Code),(J (if jump.isNone then some (pre ++ [x]) else none) I K (w4.putObj l (.loop (rec (if jump.isNone then .ready else .done) jump))))→∃v w',(Instr.endRound l jump).run P w4 = .ok v w'∧(fun e w2=>∃b:Bool,e=Ending.returned (.bool b)∧E.J (if b then some (pre ++ [x]) else none) I K w2∧Kept (fun g=>I g∨(g < W1.heap.size∧¬Mix Φ g)) w1 w2∧(∀b o u,K b o=some u→w2.cell? ⟨b,o,none⟩=some u)) (.returned v) w':=by
   intro jump hJ'
   have:=run_endRound (P:=P) jump hl4
   rw [hrec] at this hJ'
   refine ⟨_,_,this,jump.isNone,rfl,hJ',hk4.trans ⟨rfl,rfl,rfl,by simp,fun k hk=>World.putObj_heap_other (hnl k hk)⟩,fun b o u e=>putObj_cell (loop_nocell hl4) (hK4 b o u e)⟩
  have same:∀r',(w4.putObj l (.loop r')).heap[l]? = some (.loop r'):=fun r' => World.putObj_heap_same hl4'
  cases e with
  |normal=>exact fin none ⟨by simpa using hl4',hq.1,same _,CJ.putLoop hq.2 hl4 hlold _⟩
  |ret=>
   obtain ⟨G,σe,h1,h2,h3,h4,h5⟩:=hq
   exact fin (some .ret) ⟨by simpa using hl4', .ret,G,σe,⟨h2,h3,h4,h5⟩,same _,CJ.putLoop h1 hl4 hlold _⟩
  |exit i=>
   obtain ⟨G,σe,h1,h2,h3,h4,h5⟩:=hq
   exact fin (some (.exit i)) ⟨by simpa using hl4', .exit i,G,σe,⟨h2,h3,h4,h5⟩,same _,CJ.putLoop h1 hl4 hlold _⟩
  |goto i=>
   obtain ⟨G,σe,h1,h2,h3,h4,h5⟩:=hq
   exact fin (some (.goto i)) ⟨by simpa using hl4', .goto i,G,σe,⟨h2,h3,h4,h5⟩,same _,CJ.putLoop h1 hl4 hlold _⟩
  |panic ch=>exact hq.elim
  |outgrown=>exact hq.elim
 -- the call of the iterator
 refine ⟨l,ms.map collD,W1,{ target:=.fn (.func f) us.toArray,args := #[.func (.yield l) #[] #[]] },W1,f,#[.func (.yield l) #[] #[]] ++ us.toArray,W1,hent,?_,fun f' _=>trivial,?_,(fun e=>by cases e),?_⟩
 ·simp only [resolve,hgv]
  simp [go_sem]
 ·simp [invoke,go_sem,run_callFunc hit.1]
 have hW1:∀g,g < w.heap.size→W1.heap[g]? = w.heap[g]?:=fun g hg=>hkW.block g hg
 have hgb1:∀x∈given,BoxAt (fun _=>True) Φ μ ω W1 x.1 x.2:=fun x hx=>by
  obtain ⟨g,cur,T,k1,k2,k3,k4,k5,k6,k7⟩:=hgb0 x hx
  refine ⟨g,cur,T,k1,by rw [hW1 g (hg0.lt g _ k4)];exact k2,trivial,k4,k5,k6,fun j c hc=>?_⟩
  obtain ⟨u,r1,r2,r3,-⟩:=k7 j c hc
  exact ⟨u,r1,r2,r3,fun n k cs E e=>by have:=hok.nob x hx c (mem_of_get hc);rw [e] at this;simp [PV.ownB] at this⟩
 have hgm1:∀x∈gm,MapAt (fun _=>True) Φ μ ω W1 x.1 x.2:=fun x hx=>by
  obtain ⟨g,k1,k2,k3,k4,k5⟩:=hgm0 x hx
  refine ⟨g,k1,trivial,k3,k4,?_⟩
  obtain ⟨xi,X⟩:=x
  cases X with
  |map es clock=>
   obtain ⟨e0,ents,e1,e2,e3⟩:=k5
   refine ⟨e0,ents,by rw [hW1 g (hg0.lt g _ k3)];exact e1,e2,fun j s k c hj=>?_⟩
   obtain ⟨e,f1,f2,f3,f4,f5⟩:=e3 j s k c hj
   exact ⟨e,f1,f2,f3,f4,fun n kk cs E ec=>by have:=hok.nom _ hx es clock rfl _ (mem_of_get hj);simp only [ec] at this;simp [PV.ownB] at this⟩
  |iter mid since seen last=>
   obtain ⟨gm',e1,e2⟩:=k5
   exact ⟨gm',e1,by rw [hW1 g (hg0.lt g _ k3)];exact e2⟩
 refine (Calls.inW (hit.2 E l Φ μ ω W1 us hR.imm hg0.glob hus hgb1 hgm1 hY hJ0)).mono ?_
 rintro e w2 ⟨v,κ,K,I,rfl,hS,⟨hlt2,hJ2⟩,hLI,hKi,hK1,hK2,-,hgb2,hgm2⟩
 -- behind the loop
 have back:∀(G σe:PS) (r' : Loop),(∀i,Kn G i→i∈L)→SubR (fun i=>i+o) (Kn σe) G σe→(∃r,w2.heap[l]? = some (.loop r))→CJ Φr W1 M a0 l G I K w2→(∀i∈ResIds given gm,¬Kn σe i)→∃Φe We,Later Φ0 W Φe We∧Rel Φe We M (σe.addG given gm) a0 (w2.putObj l (.loop r')):=by
  rintro G σe r' hGL hsub ⟨r,hlr⟩ hcj hfree
  obtain ⟨Φ3,μ3,ω3,h3,h3I,h3l,h3K,-⟩:=hcj.putLoop hlr hlold (.loop r')
  have h4:=hsub.rel (fun i hi=>hi.spec) (fun i j hi hj e=>by have e' : i+o=j+o:=e;omega) (fun i hi g e=>by cases e) (h3.fresh0 (mu:=fun _=>none) (fun _ _ e=>by cases e) (fun _ _ e=>by cases e))
  have hext:∀b o u,Φ0.imm b o=some u→Φ b o=some u∧b < W.heap.size:=hg0.ext
  have hWw:=hg0.below.size
  have hwW:=hkW.size
  have hold0:∀b,Old Φ0 W b→b < w.heap.size∧Old Φr W1 b:=by
   intro b hb
   have h1:b < w.heap.size:=Nat.lt_of_lt_of_le hb.1 hWw
   refine ⟨h1,Nat.lt_of_lt_of_le h1 hwW,fun hh=>?_⟩
   rcases hh with ⟨p,hp⟩|rfl|hh
   ·obtain ⟨⟨q,hq⟩,-⟩:=hω b p hp;exact hg0.noOld hb q hq
   ·omega
   ·obtain ⟨i,-,-,h3,-⟩:=hlent hh;exact hg0.noOld hb _ h3
  have holdm:∀m∈ms,Old Φr W1 m:=by
   intro m hm
   obtain ⟨q1,q2,q3,q4⟩:=hms m hm
   refine ⟨q2,fun hh=>?_⟩
   rcases hh with ⟨p,hp⟩|rfl|hh
   ·have:=(hω m p hp).2.2;omega
   ·exact q3 rfl
   ·have:=hLlt m hh;omega
  have hfl:∀g,(Mine Φ0 W g∧g < W1.heap.size∧g∉ms)→Mix Φ0.imm g:=by
   rintro g ⟨h',-⟩
   rcases h' with h' | h'
   ·intro o u e;have:=(hext g o u e).2;omega
   ·exact Φ0.fl g h'
  let Φe:Ent:=⟨Φ0.imm,fun g=>Mine Φ0 W g∧g < W1.heap.size∧g∉ms,Φ0.mu,Φ0.glob,hfl,ms ++ Φ0.marks,Φ0.round⟩
  have holdc:∀b,Old Φe W1 b→Old Φ0 W b∨b∈ms:=by
   rintro b ⟨hb1,hb2⟩
   by_cases hm:b∈ms
   ·exact .inr hm
   ·left
    by_cases hmi:Mine Φ0 W b
    ·exact absurd ⟨hmi,hb1,hm⟩ hb2
    ·exact ⟨Nat.lt_of_not_le fun hh=>hmi (.inl hh),fun hh=>hmi (.inr hh)⟩
  have holde:∀b,Old Φ0 W b→Old Φe W1 b:=fun b hb=>⟨(hold0 b hb).2.1,fun hh=>hh.1.ne hb rfl⟩
  have hkW0:Kept (Old Φ0 W) W W1:=hg0.below.trans (hkW.mono fun b hb=>(hold0 b hb).1)
  have hlat:Later Φ0 W Φe W1:=by
   refine ⟨rfl,rfl,rfl,hkW0,holde,fun g hg' => ?_,fun b hb=>(holdc b hb).imp id (fun h=>List.mem_append.2 (.inl h)),fun _ b o u e=>(hext b o u e).2,ms,rfl,hnd,fun m hm=>?_⟩
   ·rcases hg' with h' | h'
    ·exact .inl (Nat.le_trans hkW0.size h')
    ·exact h'.1
   ·obtain ⟨q1,q2,q3,q4⟩:=hms m hm
    exact ⟨Nat.le_trans hWw q1,⟨q2,fun hh=>hh.2.2 hm⟩,q4⟩
  have hmineL:∀g,LentB μ (ResIds given gm) g→Mine Φe W1 g:=fun g hg=>by
   obtain ⟨i,-,-,q3,-⟩:=hlent hg
   refine .inr ⟨hg0.mine g _ q3,Nat.lt_of_lt_of_le (hLlt g hg) hwW,fun hm=>?_⟩
   have:=(hms g hm).1;have:=hLlt g hg;omega
  have hKlow:∀b o u,b < W1.heap.size→¬LentB μ (ResIds given gm) b→K b o=some u→Φ3 b o=some u:=fun b o u hb hn e=>(h3.ext b o u (by rw [hK1 b o hb hn] at e;exact e)).1
  have h4ω:∀g p,unren (fun i=>i+o) (Kn σe) (ω3 g)=some p→∃q,ω3 g=some q:=by
   intro g p e
   cases hh:ω3 g with
   |none=>
    rw [hh] at e
    unfold unren at e
    simp at e
   |some q=>exact ⟨q,rfl⟩
  have hrb:RelG Φe W1 M Φ3 _ _ σe a0 (w2.putObj l (.loop r')):=h4.rebase (h3.below.mono fun b hb=>?_) ⟨?_,fun l0 e=>?_⟩ (fun b o hb=>?_) hg0.gmu (fun i g e hi=>?_) (fun b o u e=>?_) (fun g p e=>?_)
  ·have hput:∀g,LentB μ (ResIds given gm) g→(w2.putObj l (.loop r')).heap[g]? = w2.heap[g]?:=fun g hg=>World.putObj_heap_other (fun e=>hLl (e ▸ hg))
   refine ⟨Φe,W1,hlat,hrb.addG hok (K:=K) (μg:=μ) (ωg:=ω) (fun x hx=>?_) (fun x hx=>?_) (fun b o u e=>putObj_cell (loop_nocell hlr) (hKi b o u e)) hfree (fun i hi g e=>hg0.kmu i g e (hkG i hi)) hmineL (fun b o u hb e=>?_) (fun g hg p e=>?_) (fun g p e j u ek=>?_) (fun g hg j=>?_)⟩
   ·have hi:x.1∈ResIds given gm:=List.mem_append.2 (.inl (List.mem_map.2 ⟨x,hx,rfl⟩))
    obtain ⟨g,cur,T,k1,k2,k3,k4,k5,k6,k7⟩:=hgb2 x hx
    refine ⟨g,cur,T,k1,by rw [hput g ⟨_,hi,k1⟩];exact k2,trivial,k4,k5,k6,fun j c hc=>?_⟩
    obtain ⟨u,r1,r2,r3,-⟩:=k7 j c hc
    exact ⟨u,r1,r2,r3,fun n k cs E e=>by have:=hok.nob x hx c (mem_of_get hc);rw [e] at this;simp [PV.ownB] at this⟩
   ·have hi:x.1∈ResIds given gm:=List.mem_append.2 (.inr (List.mem_map.2 ⟨x,hx,rfl⟩))
    obtain ⟨g,k1,k2,k3,k4,k5⟩:=hgm2 x hx
    refine ⟨g,k1,trivial,k3,k4,?_⟩
    have hp:=hput g ⟨_,hi,k1⟩
    obtain ⟨xi,X⟩:=x
    cases X with
    |map es clock=>
     obtain ⟨e0,ents,e1,e2,e3⟩:=k5
     refine ⟨e0,ents,by rw [hp];exact e1,e2,fun j s k c hj=>?_⟩
     obtain ⟨e,f1,f2,f3,f4,f5⟩:=e3 j s k c hj
     exact ⟨e,f1,f2,f3,f4,fun n kk cs E ec=>by have:=hok.nom _ hx es clock rfl _ (mem_of_get hj);simp only [ec] at this;simp [PV.ownB] at this⟩
    |iter mid since seen last=>
     obtain ⟨gm',e1,e2⟩:=k5
     exact ⟨gm',e1,by rw [hp];exact e2⟩
   ·exact hKlow b o u hb.1 (fun hl=>(hmineL b hl).ne hb rfl) e
   ·obtain ⟨q,hq⟩:=h4ω g p e
    exact h3I g (hLI g hg) q hq
   ·obtain ⟨q,hq⟩:=h4ω g p e
    rcases Nat.lt_or_ge g W1.heap.size with hlt|hge
    ·refine hKlow g j u hlt (fun hl=>h3I g (hLI g hl) q hq) ek
    ·exact absurd hq (h3I g (hK2 g j u hge ek) q)
   ·cases hh:Φ3 g j with
    |none=>rfl
    |some u=>
     have e1:=h3K g j u (hLI g hg) hh
     obtain ⟨i,-,-,-,h5,-⟩:=lentB_of hgb2 hgm2 hg
     rw [h5] at e1;cases e1
  ·rcases holdc b hb with h' | h'
   ·exact (hold0 b h').2
   ·exact holdm b h'
  ·exact h3.defers.1
  ·obtain ⟨q1,q2⟩:=hg0.defers.2 l0 e
   obtain ⟨r0,q2⟩:=q2
   exact ⟨holde l0 q1,r0,(hkW0.block l0 q1).trans q2⟩
  ·rcases holdc b hb with h' | h'
   ·rw [h3.old b o (hold0 b h').2]
    exact hg0.old b o h'
   ·obtain ⟨q1,q2,q3,q4⟩:=hms b h'
    rw [h3.old b o (holdm b h')]
    show Φ b o=Φ0.imm b o
    have e1:Φ b o=none:=by
     cases hh:Φ b o with
     |none=>rfl
     |some u=>have:=RelG.fresh hg0 hh;omega
    have e2:Φ0.imm b o=none:=by
     cases hh:Φ0.imm b o with
     |none=>rfl
     |some u=>have:=(hext b o u hh).2;omega
    rw [e1,e2]
  ·have hSi:Kn σe i∧Kn G (i+o):=by
    rcases hi with hi|hi
    ·obtain ⟨qs,hqs⟩:=Option.ne_none_iff_exists'.1 hi
     obtain ⟨h1,ps',h2,-⟩:=hsub.b i qs hqs
     exact ⟨h1,Kn.ofb h2⟩
    ·obtain ⟨qs,hqs⟩:=Option.ne_none_iff_exists'.1 hi
     obtain ⟨h1,ps',h2,-⟩:=hsub.m i qs hqs
     exact ⟨h1,Kn.ofm h2⟩
   have hkF:Kn (F []) (i+o):=hk2 [] _ (hGL _ hSi.2)
   have hσ:σ.b i≠none∨σ.m i≠none:=by
    rcases hkF.spec with h' | h'
    ·obtain ⟨qs,hqs⟩:=Option.ne_none_iff_exists'.1 h'
     obtain ⟨-,ps',h2,-⟩:=hin.b _ qs hqs
     left;simp only [Nat.add_sub_cancel] at h2;rw [h2];simp
    ·obtain ⟨qs,hqs⟩:=Option.ne_none_iff_exists'.1 h'
     obtain ⟨-,ps',h2,-⟩:=hin.m _ qs hqs
     right;simp only [Nat.add_sub_cancel] at h2;rw [h2];simp
   have h5:μ i=some g:=hg0.kmu i g e hσ
   have h6:μ1 (i+o)=some g:=by
    rw [←hμ1]
    show (if _ then _ else _)=_
    rw [if_pos hkF,Nat.add_sub_cancel];exact h5
   show (if Kn σe i then μ3 (i+o) else none)=some g
   rw [if_pos hSi.1]
   exact h3.kmu (i+o) g h6 hSi.2.spec
  ·have h':=hext b o u e
   exact ⟨(h3.ext b o u h'.1).1,Nat.lt_of_lt_of_le h'.2 (Nat.le_trans hWw hwW)⟩
  ·have h' : ∃q,ω3 g=some q:=by
    have h1:=h4.mine g p e
    have h2:=h4.lt g p e
    rcases h1 with h1|h1
    ·simp at h1 h2;omega
    ·exact h1
   obtain ⟨q,hq⟩:=h'
   have hgl:g≠l:=by rintro rfl;exact h3l q hq
   rcases h3.mine g q hq with h1|h1
   ·exact .inl h1
   ·rcases h1 with ⟨p',hp'⟩|h1|h1
    ·obtain ⟨⟨q',hq'⟩,-,hlt'⟩:=hω g p' hp'
     refine .inr ⟨hg0.mine g q' hq',Nat.lt_of_lt_of_le hlt' hwW,fun hm=>?_⟩
     have:=(hms g hm).1;omega
    ·exact absurd h1 hgl
    ·exact absurd hq (h3I g (hLI g h1) q)
 cases κ with
 |some xs=>
  obtain ⟨hip,hlr,hcj⟩:=hJ2
  obtain ⟨σe,h1,hfr,h2⟩:=done xs (hS xs rfl) hip
  have hend:=run_endLoop (P:=P) hlr (by rw [hrec];simp)
  rw [hrec] at hend
  obtain ⟨Φe,We,h3,h4⟩:=back (F xs) σe { rec .ready none with state:=.exhausted } (fun i hi=>hk1 xs i hi) h1 ⟨_,hlr⟩ hcj hfr
  rw [hrec] at h4
  exact ⟨none,_,hend,σe.addG given gm,Φe,We,h2,h3,h4⟩
 |none=>
  obtain ⟨c,G,σe,⟨h1,h2,hfr,h3⟩,hlr,hcj⟩:=hJ2
  have hend:=run_endLoop (P:=P) hlr (by rw [hrec];simp)
  rw [hrec] at hend
  obtain ⟨Φe,We,h4,h5⟩:=back G σe { rec .done (some c) with state:=.exhausted } h1 h2 ⟨_,hlr⟩ hcj hfr
  rw [hrec] at h5
  refine ⟨some c,_,hend,?_⟩
  simp only
  cases c with
  |ret=>exact wpIn_ret ⟨σe.addG given gm,Φe,We,h3,h4,h5⟩
  |exit i=>exact wpIn_exit ⟨σe.addG given gm,Φe,We,h3,h4,h5⟩
  |goto i=>exact wpIn_goto ⟨σe.addG given gm,Φe,We,h3,h4,h5⟩
  |_=>exact h3.elim
theorem RoundP.mono {o:Nat} {L:List Nat} {T:Nat→PV} {F' : PS} {Ip:Prop} {Q Q' : Exit→PS→Prop} (hq:∀e σ,Q e σ→Q' e σ) {e:Exit} {σ:PS} (h:RoundP M o L T F' Ip Q e σ):RoundP M o L T F' Ip Q' e σ:=by
 cases e with
 |normal=>exact h
 |ret=>obtain ⟨h1,G,σe,h2,h3,h4,h5⟩:=h;exact ⟨h1,G,σe,h2,h3,h4,hq _ _ h5⟩
 |exit i=>obtain ⟨h1,G,σe,h2,h3,h4,h5⟩:=h;exact ⟨h1,G,σe,h2,h3,h4,hq _ _ h5⟩
 |goto i=>obtain ⟨h1,G,σe,h2,h3,h4,h5⟩:=h;exact ⟨h1,G,σe,h2,h3,h4,hq _ _ h5⟩
 |panic ch=>exact h
 |outgrown=>exact h
end
section
open Go.RowKit
theorem pcStrings (zs:List ByteArray) (hf:SmallStrs zs) (hl:zs.length≤1000000):PCalls Tryd.prog 61 [pstrs zs] (· = pbytesO (strsB zs)):=
 pcalls1 (by kernel_rfl) fun Φ μ w v himm hr=>(wireStrings v zs w (strs_of_rep himm hr) hf hl).mono (by
  rintro e w' ⟨u,rfl,ho,hb⟩
  exact post_own himm (plain_int _) ho hb)
inductive AsPt (id:Nat) (cs:List PV):PV→PV→Prop
 |same (p:PV):AsPt id cs p p
 |ptr (off:Nat):AsPt id cs (.ptr id off) (.ep cs off)
 |fn (f:FuncId) (ps qs:List PV) (hl:ps.length=qs.length) (h:∀(j:Nat) p q,ps[j]? = some p→qs[j]? = some q→AsPt id cs p q):AsPt id cs (.fn f ps) (.fn f qs)
 |ep (ps qs:List PV) (off:Nat) (hl:ps.length=qs.length) (h:∀(j:Nat) p q,ps[j]? = some p→qs[j]? = some q→AsPt id cs p q):AsPt id cs (.ep ps off) (.ep qs off)
def AsPtL (id:Nat) (cs:List PV) (ps qs:List PV):Prop:=ps.length=qs.length∧∀(j:Nat) p q,ps[j]? = some p→qs[j]? = some q→AsPt id cs p q
theorem AsPtL.nil {id:Nat} {cs:List PV} : AsPtL id cs [] []:=⟨rfl,fun j p q h=>by simp at h⟩
theorem AsPtL.cons {id:Nat} {cs:List PV} {p q:PV} {ps qs:List PV} (h:AsPt id cs p q) (hs:AsPtL id cs ps qs):AsPtL id cs (p :: ps) (q :: qs):=by
 refine ⟨by simp [hs.1],fun j p' q' h1 h2=>?_⟩
 cases j with
 |zero=>simp at h1 h2;subst h1 h2;exact h
 |succ j=>exact hs.2 j p' q' (by simpa using h1) (by simpa using h2)
theorem AsPt.rep {id:Nat} {cs:List PV} {p q:PV} (h:AsPt id cs p q) {Φ Φ' : Imm} {μ:Nat→Option Nat} (hΦ:∀b o u,Φ b o=some u→Φ' b o=some u) (hT:∀g off,μ id=some g→Rep Φ' μ (.ep cs off) (.pointer (some ⟨g,off,none⟩))) {v:Value} (hr:Rep Φ μ p v):Rep Φ' μ q v:=by
 induction h generalizing v with
 |same p=>exact hr.mono hΦ (fun _ _ e=>e)
 |ptr off=>obtain ⟨g,hg,rfl⟩:=hr.ptr_inv;exact hT g off hg
 |fn f ps qs hl h ih=>
  cases hr with
  |fn _ _ us hu=>
   rw [hl]
   refine .fn f qs us fun j c hc=>?_
   obtain ⟨p,hp⟩:=get_of_len hl hc
   exact ih j p c hp hc (hu j p hp)
 |ep ps qs off hl h ih=>
  cases hr with
  |ep _ _ b o us hp hu=>
   refine .ep qs off b o us (fun j hj=>hΦ _ _ _ (hp j (by rw [hl];exact hj))) fun j c hc=>?_
   obtain ⟨p,hp'⟩:=get_of_len hl hc
   exact ih j p c hp' hc (hu j p hp')
theorem BoxAt.stands {B:Nat→Prop} {Φ Φ' : Imm} {μ μ' : Nat→Option Nat} {ω ω' : Nat→Option Who} {w:World} {id:Nat} {bs:List PV} (h:BoxAt B Φ μ ω w id bs) {B' : Nat→Prop} (hB:∀g,B g→B' g) (hs:∀c∈bs,Stands c) (hμ:∀i g,μ i=some g→μ' i=some g) (hω:∀g q,OfId id q→ω g=some q→ω' g=some q∧∀j,Φ' g j=Φ g j):BoxAt B' Φ' μ' ω' w id bs:=by
 obtain ⟨g,cur,T,h1,h2,h3,h4,h5,h6,h7⟩:=h
 obtain ⟨k1,k2⟩:=hω g _ (.inl rfl) h4
 refine ⟨g,cur,T,hμ _ _ h1,h2,hB _ h3,k1,fun j=>by rw [k2];exact h5 j,h6,fun j c hc=>?_⟩
 obtain ⟨u,r1,r2,r3,r4⟩:=h7 j c hc
 exact ⟨u,r1,r2,(hs c (mem_of_get hc)).rep hμ r3 (fun n k cs E e=>r4 n k cs E e) (fun g e=>(hω g _ (.inr ⟨j,rfl⟩) e).2),fun n k cs E e=>by
  rcases r4 n k cs E e with ho|⟨g',cap,cur',q1,q2,q3,q4,q5,q6,q7,q8⟩|ho
  ·exact .inl ho
  ·obtain ⟨k1,k2⟩:=hω g' _ (.inr ⟨j,rfl⟩) q7
   exact .inr (.inl ⟨g',cap,cur',q1,hB _ q2,q3,q4,q5,q6,k1,q8.1,fun j hj=>by rw [k2];exact q8.2 j hj⟩)
  ·exact .inr (.inr ho)⟩
theorem MapAt.stands {B:Nat→Prop} {Φ Φ' : Imm} {μ μ' : Nat→Option Nat} {ω ω' : Nat→Option Who} {w:World} {id:Nat} {X:PMap} (h:MapAt B Φ μ ω w id X) {B' : Nat→Prop} (hB:∀g,B g→B' g) (hs:∀es clock,X = .map es clock→∀e∈es,FlatV e.2.1∧Stands e.2.2) (hμ:∀i g,μ i=some g→μ' i=some g) (hω:∀g q,OfId id q→ω g=some q→ω' g=some q∧∀j,Φ' g j=Φ g j):MapAt B' Φ' μ' ω' w id X:=by
 obtain ⟨g,h1,h2,h3,h4,h5⟩:=h
 obtain ⟨k1,k2⟩:=hω g _ (.inl rfl) h3
 refine ⟨g,hμ _ _ h1,hB _ h2,k1,fun j=>by rw [k2];exact h4 j,?_⟩
 cases X with
 |map es clock=>
  obtain ⟨e0,ents,e1,e2,e3⟩:=h5
  refine ⟨e0,ents,e1,e2,fun j s k c hj=>?_⟩
  obtain ⟨e,f1,f2,f3,f4,f5⟩:=e3 j s k c hj
  have h':=hs es clock rfl _ (mem_of_get hj)
  refine ⟨e,f1,f2,f3.flatV hμ h'.1,h'.2.rep hμ f4 (fun n k cs E e=>f5 n k cs E e) (fun g e=>(hω g _ (.inr ⟨s,rfl⟩) e).2),fun n kk cs E ec=>?_⟩
  rcases f5 n kk cs E ec with ho|⟨g',cap,cur',q1,q2,q3,q4,q5,q6,q7,q8⟩|ho
  ·exact .inl ho
  ·obtain ⟨k1,k2⟩:=hω g' _ (.inr ⟨s,rfl⟩) q7
   exact .inr (.inl ⟨g',cap,cur',q1,hB _ q2,q3,q4,q5,q6,k1,q8.1,fun j hj=>by rw [k2];exact q8.2 j hj⟩)
  ·exact .inr (.inr ho)
 |iter mid since seen last=>
  obtain ⟨gm,e1,e2⟩:=h5
  exact ⟨gm,hμ _ _ e1,e2⟩
theorem HCalls.lend {P:Program} {f:FuncId} {args args' : List PV} {id:Nat} {cs:List PV} {given res:List (Nat×List PV)} {gm rm:List (Nat×PMap)} {r:PV} (h:HCalls P f args given gm r res rm) (hA:AsPtL id cs args' args)
  (hid:id∉ResIds given gm) (hid2:id∉ResIds res rm) (hsub:∀i∈ResIds given gm,i∈ResIds res rm) (hlow:∀c∈cs,LowI (fun i=>i∈ResIds given gm) c) (hno:∀c∈cs,c.ownB=false) (hr:Stands r) (hres:∀x∈res,∀c∈x.2,Stands c) (hrm:∀x∈rm,∀es clock,x.2 = .map es clock→∀e∈es,FlatV e.2.1∧Stands e.2.2) :
  HCalls P f args' ((id,cs) :: given) gm r ((id,cs) :: res) rm:=by
 refine ⟨h.1,fun Φ μ ω w vs himm hgl hrep hgb hgmm hlt=>?_⟩
 have hbox:=hgb (id,cs) (List.mem_cons_self ..)
 obtain ⟨g,cur,Ty,b1,b2,b3,b4,b5,b6,b7⟩:=hbox
 simp only at b1 b4 b6 b7
 have hcellg:∀o,w.cell? ⟨g,o,none⟩=cur[o]?:=fun o=>by simp [World.cell?,b2]
 have hΦ1:∀b o u,Φ b o=some u→immRow Φ g cur b o=some u:=by
  intro b o u e
  unfold immRow
  rw [if_neg]
  ·exact e
  ·rintro rfl;rw [b5] at e;cases e
 have hother:∀b o,b≠g→immRow Φ g cur b o=Φ b o:=fun b o hb=>by unfold immRow;rw [if_neg hb]
 have hT:∀g' off,μ id=some g'→Rep (immRow Φ g cur) μ (.ep cs off) (.pointer (some ⟨g',off,none⟩)):=by
  intro g' off e
  rw [b1] at e;cases e
  have e0:(⟨g,off,none⟩:Addr)=⟨g,0+off,none⟩:=by rw [Nat.zero_add]
  rw [e0]
  refine .ep cs off g 0 (fun j=>cur.getD j undef) (fun j hj=>?_) (fun j c hc=>?_)
  ·unfold immRow
   rw [if_pos rfl,Nat.zero_add,Array.getD_eq_getD_getElem?,Array.getElem?_eq_getElem (by omega)];rfl
  ·obtain ⟨u,r1,r2,r3,-⟩:=b7 j c hc
   rw [Array.getD_eq_getD_getElem?,r1]
   exact r3.mono hΦ1 (fun _ _ e=>e)
 have hne:∀i∈ResIds given gm,∀q,OfId i q→∀g',ω g' = some q→g'≠g:=by
  rintro i hi q hq g' e rfl
  rw [b4] at e;cases e
  rcases hq with hq|⟨j,hq⟩
  ·cases hq;exact hid hi
  ·cases hq
 have hkeep:∀i∈ResIds given gm,KeptBy (OfId i) Φ (immRow Φ g cur) ω ω w w:=fun i hi q hq g' e=>⟨rfl,fun j=>hother g' j (hne i hi q hq g' e),e⟩
 have hrun:=h.2 (immRow Φ g cur) μ ω w vs (fun b o u e=>by
   unfold immRow at e
   split at e
   ·rename_i hb;subst hb;rw [hcellg];exact e
   ·exact himm b o u e) (fun x hx j z e=>hΦ1 _ _ _ (hgl x hx j z e)) ⟨by rw [hrep.1,hA.1],fun j c u hc hu=>by
   obtain ⟨p,hp⟩:=get_of_len hA.1 hc
   exact (hA.2 j p c hp hc).rep hΦ1 hT (hrep.2 j p u hp hu)⟩
  (fun x hx=>(hgb x (List.mem_cons_of_mem _ hx)).step hΦ1 (fun _ _ e=>e) (hkeep x.1 (List.mem_append.2 (.inl (List.mem_map.2 ⟨x,hx,rfl⟩)))))
  (fun x hx=>(hgmm x hx).step hΦ1 (fun _ _ e=>e) (hkeep x.1 (List.mem_append.2 (.inr (List.mem_map.2 ⟨x,hx,rfl⟩))))) hlt
 refine hrun.mono ?_
 rintro e w' ⟨v,Φ',μ',ω',rfl,p1,p2,p3,p4,p5,p6,p7,p8,p9,p10,p11⟩
 have hglt:g < w.heap.size:=hlt g _ b4
 have hgn:¬Giv ω (ResIds given gm) g:=by
  rintro ⟨i,hi,q,hq,e⟩
  exact hne i hi q hq g e rfl
 have hno' : ∀q,ω' g≠some q:=by
  intro q e
  rcases (p10 g q e).2 with h' | h'
  ·omega
  ·exact hgn h'
 have hrid:∀i,i∈ResIds ((id,cs) :: given) gm↔i=id∨i∈ResIds given gm:=by intro i;simp [ResIds]
 have hrid2:∀i,i∈ResIds ((id,cs) :: res) rm↔i=id∨i∈ResIds res rm:=by intro i;simp [ResIds]
 have hgiv:∀b,Giv ω (ResIds given gm) b→Giv ω (ResIds ((id,cs) :: given) gm) b:=fun b ⟨i,hi,k⟩=>⟨i,(hrid i).2 (.inr hi),k⟩
 have hgivg:Giv ω (ResIds ((id,cs) :: given) gm) g:=⟨id,(hrid id).2 (.inl rfl),_, .inl rfl,b4⟩
 have hnew:∀b,NewOr ω w (ResIds given gm) b→NewOr ω w (ResIds ((id,cs) :: given) gm) b:=fun b hb=>hb.imp (fun h=>h) (hgiv b)
 let Φ2:Imm:=fun b o=>if b=g then none else Φ' b o
 let μ2:Nat→Option Nat:=fun i=>if i=id then some g else μ' i
 let ω2:Nat→Option Who:=fun b=>if b=g then some (.box id) else ω' b
 have hΦ2:∀b o,b≠g→Φ2 b o=Φ' b o:=fun b o hb=>by show (if _ then _ else _)=_;rw [if_neg hb]
 have hΦg:∀o,Φ2 g o=none:=fun o=>by show (if _ then _ else _)=_;rw [if_pos rfl]
 have hμ2:∀i g',μ' i=some g'→μ2 i=some g':=by
  intro i g' e
  have:=p7 i g' e
  show (if _ then _ else _)=_
  have hi:i≠id:=by rintro rfl;exact hid2 this
  rw [if_neg hi];exact e
 have hω2:∀b q,ω' b=some q→b≠g∧ω2 b=some q:=by
  intro b q e
  have hb:b≠g:=by rintro rfl;exact hno' q e
  exact ⟨hb,by show (if _ then _ else _)=_;rw [if_neg hb];exact e⟩
 refine ⟨v,Φ2,μ2,ω2,rfl,?_,fun b o u e=>?_,fun b o u e=>?_,fun b o hb hng=>?_,p5.mono (fun k hk=>⟨hk.1,fun h=>hk.2 (hgiv k h)⟩),fun i hi=>?_,fun i g' e=>?_,fun x hx=>?_,fun x hx=>?_,fun b q e=>?_,fun n k cs' E e=>?_⟩
 ·exact hr.rep hμ2 p1 (fun n k cs E e=>p11 n k cs E e) (fun b e j=>hΦ2 b j (hω2 b _ e).1)
 ·have e' : (if b=g then none else Φ' b o)=some u:=e
  split at e'
  ·cases e'
  ·exact p2 b o u e'
 ·have hb:b≠g:=by rintro rfl;rw [b5] at e;cases e
  rw [hΦ2 b o hb]
  exact p3 b o u (hΦ1 b o u e)
 ·have hb' : b≠g:=by rintro rfl;exact hng hgivg
  rw [hΦ2 b o hb',p4 b o hb (fun h=>hng (hgiv b h)),hother b o hb']
 ·show (if _ then _ else _)=_
  rcases (hrid i).1 hi with rfl|hi2
  ·rw [if_pos rfl,b1]
  ·have hi' : i≠id:=by rintro rfl;exact hid hi2
   rw [if_neg hi'];exact p6 i hi2
 ·have e' : (if i=id then some g else μ' i)=some g':=e
  split at e'
  ·rename_i h'; exact (hrid2 i).2 (.inl h')
  ·exact (hrid2 i).2 (.inr (p7 i g' e'))
 ·rcases List.mem_cons.1 hx with rfl|hx
  ·refine ⟨g,cur,Ty,by show (if _ then _ else _)=_;rw [if_pos rfl],?_, .inr hgivg,by show (if _ then _ else _)=_;rw [if_pos rfl],hΦg,b6,fun j c hc=>?_⟩
   ·rw [p5.block g ⟨hglt,hgn⟩];exact b2
   ·obtain ⟨u,r1,r2,r3,-⟩:=b7 j c hc
    refine ⟨u,r1,r2,?_,fun n k cs' E e=>by have:=hno c (mem_of_get hc);rw [e] at this;simp [PV.ownB] at this⟩
    refine (r3.mono (Φ':=Φ2) (fun b o u e=>?_) (fun _ _ e=>e)).lowI (hlow c (mem_of_get hc)) (fun i hi g' e=>?_)
    ·have hb:b≠g:=by rintro rfl;rw [b5] at e;cases e
     rw [hΦ2 b o hb]
     exact p3 b o u (hΦ1 b o u e)
    ·exact hμ2 i g' (by rw [p6 i hi];exact e)
  ·exact (p8 x hx).stands hnew (hres x hx) hμ2 (fun b q _ e=>⟨(hω2 b q e).2,fun j=>hΦ2 b j (hω2 b q e).1⟩)
 ·exact (p9 x hx).stands hnew (hrm x hx) hμ2 (fun b q _ e=>⟨(hω2 b q e).2,fun j=>hΦ2 b j (hω2 b q e).1⟩)
 ·have e' : (if b=g then some (.box id) else ω' b)=some q:=e
  split at e'
  ·rename_i hb;subst hb;exact ⟨Nat.lt_of_lt_of_le hglt p5.size, .inr hgivg⟩
  ·obtain ⟨q1,q2⟩:=p10 b q e'; exact ⟨q1,hnew b q2⟩
 ·rcases p11 n k cs' E e with ho|⟨g',cap,cur',q1,q2,q3,q4,q5,q6,q7,q8⟩|ho
  ·exact .inl ho
  ·obtain ⟨k1,k2⟩:=hω2 g' _ q7
   exact .inr (.inl ⟨g',cap,cur',q1,hnew g' q2,q3,q4,q5,q6,k2,q8.1,fun j hj=>by rw [hΦ2 g' j k1];exact q8.2 j hj⟩)
  ·exact .inr (.inr ho)
def MidP {α:Type} (M:Nat) (st:α→PS) (I:α→Prop) (Q:Exit→PS→Prop):Exit→PS→Prop
 | .normal,σ=>∃x,I x∧Sub M σ (st x)
 |e,σ=>Q e σ
end
section
open Go.RowKit
variable {P:Program} {M:Nat} {Q:Exit→PS→Prop} {σ:PS}
theorem midP {α:Type} {st:α→PS} {I:α→Prop} (x:α) (hi:I x) (hs:Sub M σ (st x)):MidP M st I Q .normal σ:=⟨x,hi,hs⟩
theorem PW.cutB {α:Type} {id:Nat} {c y:Code} (st:α→PS) (I:α→Prop) (h1:PW P M c (BlockP id (MidP M st I Q)) σ) (h2:∀x,I x→PW P M y Q (st x)):PW P M c (BlockP id (ThenP P M y Q)) σ:=by
 refine PW.conseq h1 fun e σ' h=>?_
 cases e with
 |normal=>
  obtain ⟨x,hx,hs⟩:=h
  exact PW.sub (h2 x hx) hs
 |exit i=>
  simp only [BlockP] at h ⊢
  split at h
  ·rename_i e
   rw [if_pos e]
   obtain ⟨x,hx,hs⟩:=h
   exact PW.sub (h2 x hx) hs
  ·rename_i e
   rw [if_neg e]
   exact h
 |_=>exact h
end
section
open Go.RowKit
variable {P:Program} {T:Tab} {ops:Array Oper} {base:Nat} {ok:Nat→Nat→Bool} {i:Nat} {o:Oper} {rest:List (Nat×Oper)} {K:PS→Prop} {σ:PS}
theorem PWops.callV {c:Call} {x:Operand} {d:Nat} {f:FuncId} {caps args:List PV} {r:PV} (hf:Nat.blt f 1000000=true) (hp:PCalls P f args (· = r)) (hg:pguard ops σ o=some true) (hd:o.dst=some d) (hop:o.op = .call c) (hcal:c.callee = .value x) (hx:pev σ x = .fn f caps) (hargs:c.args.toList.map (pev σ) ++ caps=args)
  (k:PWops P T ops base ok rest K (σ.put d r)):PWops P T ops base ok ((i,o) :: rest) K σ:=by
 refine PWops.call hg hd ?_ hp k
 unfold pcall
 rw [hop]
 simp only [hcal,hx,hf,cond_true,hargs]
end
section
open Go.RowKit
def idxF {α:Type} (p:α→Bool) (l:List α):Int:=match l.findIdx? p with
 |some i=>i
 |none => -1
theorem idxF_ge {α:Type} (p:α→Bool) (l:List α):decide (0≤idxF p l)=l.any p:=by
 unfold idxF
 cases h:l.findIdx? p with
 |none=>
  have:l.any p=false:=by
   rw [List.findIdx?_eq_none_iff] at h
   rw [List.any_eq_false]
   intro x hx
   simp [h x hx]
  rw [this];rfl
 |some i=>
  have:l.any p=true:=by
   obtain ⟨hi,h1,-⟩:=List.findIdx?_eq_some_iff_getElem.1 h
   rw [List.any_eq_true]
   exact ⟨l[i],List.getElem_mem hi,h1⟩
  rw [this];simp
theorem idxF_here {α:Type} {p:α→Bool} {l:List α} {k:Nat} (d:α) (hk:k < l.length) (hp:p (l.getD k d)=true) (hn:∀j,j < k→p (l.getD j d)=false):idxF p l=k:=by
 have:l.findIdx? p=some k:=by
  rw [List.findIdx?_eq_some_iff_getElem]
  refine ⟨hk,by simpa [List.getD_eq_getElem?_getD,hk] using hp,fun j hj=>?_⟩
  have:=hn j hj
  have hj' : j < l.length:=by omega
  simp [List.getD_eq_getElem?_getD,hj'] at this
  simp [this]
 unfold idxF
 rw [this]
theorem idxF_none {α:Type} {p:α→Bool} {l:List α} (d:α) (hn:∀j,j < l.length→p (l.getD j d)=false):idxF p l = -1:=by
 have:l.findIdx? p=none:=by
  rw [List.findIdx?_eq_none_iff]
  intro x hx
  obtain ⟨j,hj,rfl⟩:=List.getElem_of_mem hx
  have:=hn j hj
  simpa [List.getD_eq_getElem?_getD,hj] using this
 unfold idxF
 rw [this]
instance:Inhabited PEntry:=⟨⟨0,0,0,0,0,0,0,[],[]⟩⟩
instance:Inhabited PDef:=⟨⟨ByteArray.empty,0,0,0,[]⟩⟩
instance:Inhabited PAttr:=⟨⟨ByteArray.empty,0,0,ByteArray.empty⟩⟩
set_option maxRecDepth 10000 in
set_option maxHeartbeats 1000000 in
theorem pw_idxI (f:Nat) (caps:List PV) (p:Int→Bool) (l:List (Int)) (hf:Nat.blt f 1000000=true) (hl:l.length≤1000000000000) (hlow:∀c∈caps,Low c) (hp:∀k,k < l.length→PCalls Tryd.prog f (pint (l.getD k default) :: caps) (· = pbool (p (l.getD k default)))):PCalls Tryd.prog 56 [pints l, .fn f caps] (· = pint (idxF p l)):=by
 have hlow1:Low (.fn f caps):=.fn f caps hlow
 have hlow2:Low (pints l):=(low_pints l).2 trivial
 refine pcalls_of_pw typeTab_ok Tryd.func56 rfl (by kernel_rfl) (by simp [hlow2,hlow1]) (by simp [pints,PV.ownB]) (by rw [Tryd.ntmps56];simp) ?_
 rw [Tryd.ntmps56,Tryd.results56]
 refine wk ?_
 refine PW.loop (fun k:Nat=>((((bot.put 0 (pints l)).put 1 (.fn f caps)).put 7 (pint l.length)).put 8 (pint k))) (fun k=>k≤l.length∧∀j,j < k→p (l.getD j default)=false) (fun k=>l.length - k) 0 ⟨by omega,by simp⟩ ?_ ?_
 ·exact sb
 ·rintro k ⟨hk,hn⟩
  by_cases hlt:k < l.length
  ·refine wk ?_
   refine PWops.callV hf (hp k hlt) rfl rfl rfl rfl rfl rfl ?_
   cases hpk:p (l.getD k default) with
   |true=>
    refine wk ?_
    refine retP rfl (by exact lw) ?_
    rw [idxF_here default hlt hpk hn];rfl
   |false=>
    refine wk ?_
    refine loopP (k+1) ⟨by omega,fun j hj=>?_⟩ (by omega) ?_
    ·by_cases h:j=k
     ·rw [h];exact hpk
     ·exact hn j (by omega)
    ·exact sb
  ·refine wk ?_
   refine retP rfl (by exact lw) ?_
   rw [idxF_none default (fun j hj=>hn j (by omega))];rfl
set_option maxRecDepth 10000 in
theorem pw_anyI (f:Nat) (caps:List PV) (p:Int→Bool) (l:List (Int)) (hf:Nat.blt f 1000000=true) (hl:l.length≤1000000000000) (hlow:∀c∈caps,Low c) (hp:∀k,k < l.length→PCalls Tryd.prog f (pint (l.getD k default) :: caps) (· = pbool (p (l.getD k default)))):PCalls Tryd.prog 58 [pints l, .fn f caps] (· = pbool (l.any p)):=by
 have hlow1:Low (.fn f caps):=.fn f caps hlow
 have hlow2:Low (pints l):=(low_pints l).2 trivial
 have h:=pw_idxI f caps p l hf hl hlow hp
 refine pcalls_of_pw typeTab_ok Tryd.func58 rfl (by kernel_rfl) (by simp [hlow2,hlow1]) (by simp [pints,PV.ownB]) (by rw [Tryd.ntmps58];simp) ?_
 rw [Tryd.ntmps58,Tryd.results58]
 refine wk ?_
 refine PWops.boolS rfl rfl rfl rfl rfl ?_ ?_
 ·intro hsp
  refine wk ?_
  refine retP rfl (by exact lw) ?_
  rw [←idxF_ge,hsp];rfl
 ·intro hsp
  refine wk ?_
  refine retP rfl (by exact lw) ?_
  rw [←idxF_ge,hsp];rfl
theorem str_at {s:ByteArray} {y:Nat} (h:y < s.size):∃b:UInt8,s[y]? = some b∧((bytesL s).getD y 0)=(b.toNat:Int):=by
 refine ⟨s[y],getElem?_pos s y h,?_⟩
 have h' : y < s.data.toList.length:=h
 simp only [bytesL,List.getD_eq_getElem?_getD,List.getElem?_map,List.getElem?_eq_getElem h',Option.map_some,Option.getD_some]
 rfl
end
section
open Go.RowKit
variable {P:Program} {T:Tab} {σ:PS} {o:Oper} {i base:Nat} {ops:Array Oper} {ok:Nat→Nat→Bool} {rest:List (Nat×Oper)} {K:PS→Prop}
theorem PWops.idxSt {d y:Nat} {z c:Int} {s:ByteArray} {kk:IntKind} {x ix:Operand} {t:TypeId} {ti:TyI} (hg:pguard ops σ o=some true) (hd:o.dst=some d) (hop:o.op = .index t x ix) (hx:pev σ x = .val (.string s)) (hi:pev σ ix = .val (.int kk z)) (ht:T.at t=some ti) (hk:ti.kind = .str) (hb:σ.freeB (base+i)=true) (hz:z=y) (hy:y < s.size) (hc:(bytesL s).getD y 0=c)
  (kn:PWops P T ops base ok rest K (σ.put d (.val (.int .u8 c)))):PWops P T ops base ok ((i,o) :: rest) K σ:=by
 subst hz
 obtain ⟨b,h1,h2⟩:=str_at hy
 rw [←hc,h2] at kn
 refine pres_pval hg hd ?_ hb kn
 simp [hop,presE,pvalA,pval,pev_only,hx,hi,ht,hk,pindexV,h1]
end
end Go.Proofs.YtmeekbjhpidcgaaDoor
