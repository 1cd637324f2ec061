/- Merged: PwIt6, Za, Zb, Zh, Zc, Zd, Ze, PwCut, Zf, Zg, PwMk, Zi, Zj, Zk, PlainRt, Zl, Zm, Zn, Zo, Zp, Zq, Zr, Zs, Zt, PwSc, Zu, Sm, Sn, Zv, PlainK, Sw, Ya. -/
import Derived.Lib.BitFns
import Derived.Test.YtoamkpgaaanafaaGreatShelf
import Derived.Laws.Strings
import Derived.Test.YtoamkpgaaanafaaGreatC4
/- Pure walks: the loop that ranges over a function. -/
namespace Go.Proofs.YtoamkpgaaanafaaGreat
set_option linter.unusedSimpArgs false
set_option linter.unusedVariables false
set_option linter.unnecessarySimpa false
open Go.RowKit
section
variable {M:Nat} {Q:Exit→PS→Prop} {σ:PS} {P:Program}
theorem enter_run {Φ0:Ent} {W:World} {Φ:Imm} {μ:Nat→Option Nat} {ω:Nat→Option Who} {a:Act} {w:World} (h:RelG Φ0 W M Φ μ ω σ a w) (fn:FuncId) (ps:Array Tmp) (assign body:Code) :
  ∃(l:Nat) (ms:List Nat) (df:Nat) (W1:World),(Instr.enterLoop fn a.tmps ps assign body (FW Φ0.round).round).run P w = .ok (l,ms.map collD) W1∧W1.heap[l]? = some (.loop { state:=.ready,pending:=none,fn,tmps:=a.tmps,params:=ps,assign,body,defers:=df })∧w.heap.size≤l∧Kept (fun b=>b < w.heap.size) w W1∧ms.Nodup ∧
   ∀m∈ms,w.heap.size≤m∧m < W1.heap.size∧m≠l∧W1.heap[m]? = some (.deferred (some [])):=by
 show ∃(l:Nat) (ms:List Nat) (df:Nat) (W1:World),(Instr.enterLoop fn a.tmps ps assign body Φ0.round).run P w=_∧_
 cases hro:Φ0.round with
 |none=>
  refine ⟨w.heap.size+1,[w.heap.size],w.heap.size,_,run_enterLoop_outer _ _ _ _ _,?_,by omega,⟨rfl,rfl,rfl,by simp;omega,fun k hk=>?_⟩,by simp,fun m hm=>?_⟩
  ·have:=World.alloc_heap_new (w.alloc (.deferred (some []))) (.loop { state:=.ready,pending:=none,fn,tmps:=a.tmps,params:=ps,assign,body,defers:=w.heap.size })
   rwa [World.size_alloc] at this
  ·rw [Below.heap_alloc _ _ _ (by simp;omega),Below.heap_alloc _ _ _ hk]
  ·have:m=w.heap.size:=by simpa using hm
   subst this
   refine ⟨Nat.le_refl _,by simp;omega,by omega,?_⟩
   exact (Below.heap_alloc _ _ _ (by simp)).trans (World.alloc_heap_new w _)
 |some l0=>
  obtain ⟨q1,q2,r,q3⟩:=h.rnd hro
  refine ⟨w.heap.size,[],r.defers,w.alloc (.loop { state:=.ready,pending:=none,fn,tmps:=a.tmps,params:=ps,assign,body,defers:=r.defers }),?_,World.alloc_heap_new w _,Nat.le_refl _,⟨rfl,rfl,rfl,by simp,fun k hk=>Below.heap_alloc _ _ _ hk⟩,by simp,fun m hm=>by cases hm⟩
  unfold Instr.enterLoop
  simp only [Sem.run_bind,run_getLoop q3,Result.andThen,Sem.run_pure,run_newObj_alloc]
  rfl
def putps (σ:PS):List Nat→List PV→PS
 |p :: ps,x :: xs=>putps (σ.put p x) ps xs
 |_,_=>σ
theorem putps_eq:∀(ps:List Nat) (xs:List PV) (σ:PS),{ σ with t:=setps σ.t ps xs } = putps σ ps xs
 | [],_,_=>rfl
 |_ :: _,[],_=>rfl
 |p :: ps,x :: xs,σ=>putps_eq ps xs (σ.put p x)
theorem lowT_bot {S:Nat→Prop} : ∀t,LowI S (bot.t t):=fun _=>.undef
theorem lowT_put {S:Nat→Prop} {σ:PS} {d:Nat} {p:PV} (h:∀t,LowI S (σ.t t)) (hp:LowI S p):∀t,LowI S ((σ.put d p).t t):=by
 intro t
 simp only [PS.put,upd_if]
 split
 ·exact hp
 ·exact h t
theorem lowT_setb {S:Nat→Prop} {σ:PS} {d:Nat} {bs:List PV} (h:∀t,LowI S (σ.t t)):∀t,LowI S ((σ.setb d bs).t t):=h
theorem lowT_setm {S:Nat→Prop} {σ:PS} {d:Nat} {X:PMap} (h:∀t,LowI S (σ.t t)):∀t,LowI S ((σ.setm d X).t t):=h
theorem roundP {o:Nat} {L:List Nat} {T:Nat→PV} {F' : PS} {Ip:Prop} (h1:Ip) (h2:Sub M { σ with t:=T } F') (h3:∀t,LowI (Kn σ) (T t)):RoundP M o L T F' Ip Q .normal σ:=⟨h1,h2,h3⟩
theorem roundP_ret {o:Nat} {L:List Nat} {T:Nat→PV} {F' : PS} {Ip:Prop} (G σe:PS) (h1:∀t,LowI (Kn σ) (T t)) (h2:Sub M { σ with t:=T } G) (h3:∀i,Kn G i→i∈L) (h4:SubR (fun i=>i+o) (Kn σe) G σe) (h5:Q .ret σe):RoundP M o L T F' Ip Q .ret σ:=⟨h1,G,σe,h2,h3,h4,h5⟩
open Classical in
theorem PW.rangeFunc {g:Operand} {ps:Array Tmp} {assign body:Code} {f:FuncId} {caps:List PV} {A S:List (List PV)→Prop} (o:Nat) (L:List Nat) (F:List (List PV)→PS) (I0:List (List PV)→Prop) (hI0:I0 [])
  (hg:pev σ g = .fn f caps) (hf:Nat.blt f 1000000=true) (hlow:∀p∈caps,Low p) (hit:ItSpec P f caps A S) (hin:SubR (fun i=>i - o) (Kn (F [])) σ (F []))
  (hk1:∀pre i,Kn (F pre) i→i∈L) (hk2:∀pre,∀i∈L,Kn (F pre) i) (hL:L.all (fun i=>Nat.ble o i)=true) (ho:1000000≤o) (hF:∀pre,OwnsS (F pre)) (hps:∀p∈ps.toList,p < M)
  (hx:∀pre x,A (pre ++ [x])→ps.toList.length=x.length∧∀p∈x,Low p∧p.ownB=false)
  (round:∀pre x,I0 pre→A (pre ++ [x])→PW P M assign (NormP fun σ1=>PW P M body (RoundP M o L (F pre).t (F (pre ++ [x])) (I0 (pre ++ [x])) Q) σ1) (putps (F pre) ps.toList x))
  (done:∀xs,S xs→I0 xs→∃σe,SubR (fun i=>i+o) (Kn σe) (F xs) σe∧Q .normal σe):PW P M (.rangeFunc g ps assign body) Q σ:=by
 intro Φ0 W a w ⟨Φ,μ,ω,hg0⟩
 refine wpIn_rangeFunc ?_
 intro fn hfn
 obtain ⟨l,ms,df,W1,hent,hl1,hlw,hkW,hnd,hms⟩:=enter_run (P:=P) hg0 fn ps assign body
 obtain ⟨rec,hrec⟩:∃rec:LoopState→Option Code→Loop,rec=fun st pe=>{ state:=st,pending:=pe,fn,tmps:=a.tmps,params:=ps,assign,body,defers:=df }:=⟨_,rfl⟩
 have hl1' : W1.heap[l]? = some (.loop (rec .ready none)):=by rw [hrec];exact hl1
 have hlW:l < W1.heap.size:=(Array.getElem?_eq_some_iff.1 hl1).1
 -- the iterator's value
 have hev:=hg0.ev g
 rw [hg] at hev
 have hlt:f < 1000000:=by simpa [Nat.blt_eq] using hf
 obtain ⟨us,hgv,hus⟩:∃us:List Value,a.eval g = .func (.func f) #[] us.toArray∧RepL Φ mu0 caps us:=by
  obtain ⟨us,e1,e2⟩:=hev.fn_inv
  refine ⟨us,?_,⟨e2.1,fun j p u h1 h2=>(e2.2 j p u h1 h2).low (hlow p (mem_of_get h1))⟩⟩
  rw [e1]
  unfold fnV
  rw [if_pos hlt]
 -- the caller's memory,under high numbers
 have hnum:∀i,Kn (F []) i→o≤i:=fun i hi=>Nat.le_of_ble_eq_true (List.all_eq_true.1 hL i (hk1 [] i hi))
 have hA:=hg0.fresh0 (mu:=fun _=>none) (fun _ _ e=>by cases e) (fun _ _ e=>by cases e)
 have hB:=hin.rel (fun i hi=>hi.spec) (fun i j hi hj e=>by have:=hnum i hi;have:=hnum j hj;have e' : i - o=j - o:=e;omega) (fun i hi g e=>by cases e) hA
 generalize hμ1:(fun i=>if Kn (F []) i then μ (i - o) else none)=μ1 at hB
 generalize hω1:(fun g=>unren (fun i=>i - o) (Kn (F [])) (ω g))=ω1 at hB
 obtain ⟨ω2,hC,hω2⟩:=hB.mixed (hF [])
 have hω:∀g p,ω2 g=some p→(∃q,ω g=some q)∧Mix Φ g∧g < w.heap.size:=by
  intro g p e
  have hlt':=hC.lt g p e
  rcases hC.mine g p e with h' | h'
  ·omega
  ·exact ⟨h',(hω2 g p e).2,hlt'⟩
 have hD:RelG (hg0.freshE fun _=>none) w M Φ μ1 ω2 (F []) a W1:=by
  refine hC.grow (hC.below.trans (hkW.mono fun b hb=>hb.1)) (fun b o u e=>?_) (fun _ _ _=>rfl) (fun _ _ _ e=>e) (fun g p e=>⟨hkW.block g (hω g p e).2.2,fun _=>rfl⟩) hkW.size
  have:=hg0.imm b o u e
  simp only [World.cell?] at this ⊢
  rw [hkW.block b (RelG.fresh hg0 e)];exact this
 have hω2l:∀p,ω2 l≠some p:=fun p e=>by have:=(hω l p e).2.2;omega
 have hΦl:∀j,Φ l j=none:=fun j=>by
  cases hh:Φ l j with
  |none=>rfl
  |some u=>have:=RelG.fresh hg0 hh;omega
 have hmixl:Mix Φ l:=fun o u e=>by rw [hΦl] at e;cases e
 let Φr:Ent:=⟨Φ,fun g=>(∃p,ω2 g=some p)∨g=l,μ1,hg0.glob,fun g hg' => hg'.elim (fun ⟨p,e⟩=>(hω g p e).2.1) (fun e=>e ▸ hmixl),ms ++ Φ0.marks,Φ0.round⟩
 let a0:Act:={ a with defers:=ms.map collD ++ a.defers }
 have hμk:∀i g,μ1 i=some g→Kn (F []) i∧μ (i - o)=some g:=by
  intro i g e
  rw [←hμ1] at e
  have e' : (if Kn (F []) i then μ (i - o) else none)=some g:=e
  split at e'
  ·rename_i hk;exact ⟨hk,e'⟩
  ·cases e'
 have hR:RelG Φr W1 M Φ μ1 ω2 (F []) a0 W1:=by
  refine hD.rebaseA rfl (Kept.refl _ _) ⟨?_,fun l0 e=>?_⟩ (fun b o hb=>rfl) (fun i g e=>Nat.le_trans ho (hnum i (hμk i g e).1)) (fun i g e _=>e) (fun b o u e=>⟨e,Nat.lt_of_lt_of_le (RelG.fresh hg0 e) hkW.size⟩) (fun g p e=>.inr (.inl ⟨p,e⟩))
  ·show ms.map collD ++ a.defers=(ms ++ Φ0.marks).map collD
   rw [hg0.defers.1,List.map_append]
  ·obtain ⟨q1,q2,r,q3⟩:=hg0.rnd e
   refine ⟨⟨Nat.lt_of_lt_of_le q1 hkW.size,fun hh=>?_⟩,r,(hkW.block l0 q1).trans q3⟩
   rcases hh with ⟨p,hp⟩|rfl
   ·obtain ⟨⟨q,hq⟩,-⟩:=hω l0 p hp;exact q2 q hq
   ·omega
 have hlold:¬Old Φr W1 l:=fun hh=>hh.2 (.inr rfl)
 -- what is known of the caller's memory
 let Out:Code→PS→PS→Prop:=fun c G σe=>(∀i,Kn G i→i∈L)∧SubR (fun i=>i+o) (Kn σe) G σe∧(match c with | .ret=>Q .ret σe | .exit i=>Q (.exit i) σe | .goto i=>Q (.goto i) σe|_=>False)
 let J:Come→(Nat→Prop)→Imm→World→Prop:=fun κ I K w' => l < w'.heap.size∧match κ with
  |some pre=>I0 pre∧w'.heap[l]? = some (.loop (rec .ready none))∧CJ Φr W1 M a0 l (F pre) I K w'
  |none=>∃c G σe,Out c G σe∧w'.heap[l]? = some (.loop (rec .done (some c)))∧CJ Φr W1 M a0 l G I K w'
 let E:ItEnv:=⟨J,fun {κ I I' K K' w1 w2} hJ hk hI hK hc=>by
  obtain ⟨hlt',hJ⟩:=hJ
  have hnl:∀{G:PS},CJ Φr W1 M a0 l G I K w1→w2.heap[l]? = w1.heap[l]?:=fun hcj=>hk.block l ⟨hlt',fun hi=>by obtain ⟨_,_,_,_,_,_,_,h4⟩:=hcj;have:=h4 l hi;omega⟩
  refine ⟨Nat.lt_of_lt_of_le hlt' hk.size,?_⟩
  cases κ with
  |some pre=>exact ⟨hJ.1,(hnl hJ.2.2).trans hJ.2.1,hJ.2.2.step hk hI hK hc⟩
  |none=>
   obtain ⟨c,G,σe,h1,h2,h3⟩:=hJ
   exact ⟨c,G,σe,h1,(hnl h3).trans h2,h3.step hk hI hK hc⟩⟩
 have hJ0:E.J (some []) (fun _=>False) Φ W1:=⟨hlW,hI0,hl1',Φ,μ1,ω2,hR,fun g h=>h.elim,hω2l,fun b o u h=>h.elim,fun g h=>h.elim⟩
 have hY:YOK P E l A Φ W1.heap.size:=by
  intro pre x I K w1 vs hAx hJ hI hK hK1 hK2 hKg hrep
  obtain ⟨hlt',hip,hlr,hcj⟩:=hJ
  obtain ⟨hxl,hxx⟩:=hx pre x hAx
  have hy:=run_yield (P:=P) (args:=vs.toArray) hlr (by rw [hrec];have:=hrep.1;simp at hxl ⊢; omega)
  rw [hrec] at hy
  refine ⟨fn,_,assign,body,hy,?_⟩
  have hrs:=round_sound (Φe:=Φ) (r0:=rec .ready none) (Q:=Q) (o:=o) (L:=L) (F:=F pre) (F':=F (pre ++ [x])) (ps:=ps.toList) (x:=x) (fun g h1 h2 h3=>by
    rcases h2 with h2|h2
    ·omega
    ·exact Φr.fl g h2) rfl (fun i g e=>hk2 pre i (hk1 [] i (hμk i g e).1)) (fun i hi=>Nat.le_trans ho (Nat.le_of_ble_eq_true (List.all_eq_true.1 hL i (hk1 pre i hi)))) hlW hlold hmixl (hF pre) hps hxl hxx (by rw [putps_eq];exact round pre x hip hAx) hcj hlr (by rw [hrec]) hI hK hK1 hK2 hrep
  have htm:(ps.zip vs.toArray).foldl (fun tmps (t,a)=>tmps.setIfInBounds t a) a.tmps=(ps.toList.zip vs).foldl (fun t (p,v)=>t.setIfInBounds p v) a0.tmps:=by
   rw [←Array.foldl_toList,Array.toList_zip]
  refine roundIn_of_wpIn trivial ?_
  simp only
  rw [htm]
  refine wpIn_mono hrs ?_
  rintro e a1 w2 hq
  cases e with
  |normal=>?_
  |_=>exact hq
  obtain ⟨w3,hbr,hbody⟩:=hq
  refine ⟨w3,hbr,wpIn_mono hbody ?_⟩
  rintro e a3 w4 ⟨⟨hl4,hk4,hK4⟩,hq⟩
  have hl4' : l < w4.heap.size:=(Array.getElem?_eq_some_iff.1 hl4).1
  have hnl:∀g,(I g∨(g < W1.heap.size∧¬Mix Φ g))→g≠l:=by
   rintro g (hi|⟨-,h2⟩) rfl
   ·have:=(hI g hi).1;omega
   ·exact h2 hmixl
  have fin:∀(jump:Option Code),(J (if jump.isNone then some (pre ++ [x]) else none) I K (w4.putObj l (.loop (rec (if jump.isNone then .ready else .done) jump))))→∃v w',(Instr.endRound l jump).run P w4 = .ok v w'∧(fun e w2=>∃b:Bool,e=Ending.returned (.bool b)∧E.J (if b then some (pre ++ [x]) else none) I K w2∧Kept (fun g=>I g∨(g < W1.heap.size∧¬Mix Φ g)) w1 w2∧(∀b o u,K b o=some u→w2.cell? ⟨b,o,none⟩=some u)) (.returned v) w':=by
   intro jump hJ'
   have:=run_endRound (P:=P) jump hl4
   rw [hrec] at this hJ'
   refine ⟨_,_,this,jump.isNone,rfl,hJ',hk4.trans ⟨rfl,rfl,rfl,by simp,fun k hk=>World.putObj_heap_other (hnl k hk)⟩,fun b o u e=>putObj_cell (loop_nocell hl4) (hK4 b o u e)⟩
  have same:∀r',(w4.putObj l (.loop r')).heap[l]? = some (.loop r'):=fun r' => World.putObj_heap_same hl4'
  cases e with
  |normal=>exact fin none ⟨by simpa using hl4',hq.1,same _,CJ.putLoop hq.2 hl4 hlold _⟩
  |ret=>
   obtain ⟨G,σe,h1,h2,h3,h4⟩:=hq
   exact fin (some .ret) ⟨by simpa using hl4', .ret,G,σe,⟨h2,h3,h4⟩,same _,CJ.putLoop h1 hl4 hlold _⟩
  |exit i=>
   obtain ⟨G,σe,h1,h2,h3,h4⟩:=hq
   exact fin (some (.exit i)) ⟨by simpa using hl4', .exit i,G,σe,⟨h2,h3,h4⟩,same _,CJ.putLoop h1 hl4 hlold _⟩
  |goto i=>
   obtain ⟨G,σe,h1,h2,h3,h4⟩:=hq
   exact fin (some (.goto i)) ⟨by simpa using hl4', .goto i,G,σe,⟨h2,h3,h4⟩,same _,CJ.putLoop h1 hl4 hlold _⟩
  |panic ch=>exact hq.elim
  |outgrown=>exact hq.elim
 -- the call of the iterator
 refine ⟨l,ms.map collD,W1,{ target:=.fn (.func f) us.toArray,args := #[.func (.yield l) #[] #[]] },W1,f,#[.func (.yield l) #[] #[]] ++ us.toArray,W1,hent,?_,fun f' _=>trivial,?_,(fun e=>by cases e),?_⟩
 ·simp only [resolve,hgv]
  simp [go_sem]
 ·simp [invoke,go_sem,run_callFunc hit.1]
 refine (Calls.inW (hit.2 E l Φ W1 us hR.imm hg0.glob hus hY hJ0)).mono ?_
 rintro e w2 ⟨v,κ,K,rfl,hS,hlt2,hJ2⟩
 -- behind the loop
 have back:∀(G σe:PS) (r' : Loop),(∀i,Kn G i→i∈L)→SubR (fun i=>i+o) (Kn σe) G σe→(∃r,w2.heap[l]? = some (.loop r))→CJ Φr W1 M a0 l G (fun _=>False) K w2→∃Φe We,Later Φ0 W Φe We∧Rel Φe We M σe a0 (w2.putObj l (.loop r')):=by
  rintro G σe r' hGL hsub ⟨r,hlr⟩ hcj
  obtain ⟨Φ3,μ3,ω3,h3,-,h3l,-,-⟩:=hcj.putLoop hlr hlold (.loop r')
  have h4:=hsub.rel (fun i hi=>hi.spec) (fun i j hi hj e=>by have e' : i+o=j+o:=e;omega) (fun i hi g e=>by cases e) (h3.fresh0 (mu:=fun _=>none) (fun _ _ e=>by cases e) (fun _ _ e=>by cases e))
  have hext:∀b o u,Φ0.imm b o=some u→Φ b o=some u∧b < W.heap.size:=hg0.ext
  have hWw:=hg0.below.size
  have hwW:=hkW.size
  have hold0:∀b,Old Φ0 W b→b < w.heap.size∧Old Φr W1 b:=by
   intro b hb
   have h1:b < w.heap.size:=Nat.lt_of_lt_of_le hb.1 hWw
   refine ⟨h1,Nat.lt_of_lt_of_le h1 hwW,fun hh=>?_⟩
   rcases hh with ⟨p,hp⟩|rfl
   ·obtain ⟨⟨q,hq⟩,-⟩:=hω b p hp;exact hg0.noOld hb q hq
   ·omega
  have holdm:∀m∈ms,Old Φr W1 m:=by
   intro m hm
   obtain ⟨q1,q2,q3,q4⟩:=hms m hm
   refine ⟨q2,fun hh=>?_⟩
   rcases hh with ⟨p,hp⟩|rfl
   ·have:=(hω m p hp).2.2;omega
   ·exact q3 rfl
  have hfl:∀g,(Mine Φ0 W g∧g < W1.heap.size∧g∉ms)→Mix Φ0.imm g:=by
   rintro g ⟨h',-⟩
   rcases h' with h' | h'
   ·intro o u e;have:=(hext g o u e).2;omega
   ·exact Φ0.fl g h'
  let Φe:Ent:=⟨Φ0.imm,fun g=>Mine Φ0 W g∧g < W1.heap.size∧g∉ms,Φ0.mu,Φ0.glob,hfl,ms ++ Φ0.marks,Φ0.round⟩
  have holdc:∀b,Old Φe W1 b→Old Φ0 W b∨b∈ms:=by
   rintro b ⟨hb1,hb2⟩
   by_cases hm:b∈ms
   ·exact .inr hm
   ·left
    by_cases hmi:Mine Φ0 W b
    ·exact absurd ⟨hmi,hb1,hm⟩ hb2
    ·exact ⟨Nat.lt_of_not_le fun hh=>hmi (.inl hh),fun hh=>hmi (.inr hh)⟩
  have holde:∀b,Old Φ0 W b→Old Φe W1 b:=fun b hb=>⟨(hold0 b hb).2.1,fun hh=>hh.1.ne hb rfl⟩
  have hkW0:Kept (Old Φ0 W) W W1:=hg0.below.trans (hkW.mono fun b hb=>(hold0 b hb).1)
  have hlat:Later Φ0 W Φe W1:=by
   refine ⟨rfl,rfl,rfl,hkW0,holde,fun g hg' => ?_,fun b hb=>(holdc b hb).imp id (fun h=>List.mem_append.2 (.inl h)),fun _ b o u e=>(hext b o u e).2,ms,rfl,hnd,fun m hm=>?_⟩
   ·rcases hg' with h' | h'
    ·exact .inl (Nat.le_trans hkW0.size h')
    ·exact h'.1
   ·obtain ⟨q1,q2,q3,q4⟩:=hms m hm
    exact ⟨Nat.le_trans hWw q1,⟨q2,fun hh=>hh.2.2 hm⟩,q4⟩
  refine ⟨Φe,W1,hlat,_,_,_,h4.rebase (h3.below.mono fun b hb=>?_) ⟨?_,fun l0 e=>?_⟩ (fun b o hb=>?_) hg0.gmu (fun i g e hi=>?_) (fun b o u e=>?_) (fun g p e=>?_)⟩
  ·rcases holdc b hb with h' | h'
   ·exact (hold0 b h').2
   ·exact holdm b h'
  ·exact h3.defers.1
  ·obtain ⟨q1,q2⟩:=hg0.defers.2 l0 e
   obtain ⟨r0,q2⟩:=q2
   exact ⟨holde l0 q1,r0,(hkW0.block l0 q1).trans q2⟩
  ·rcases holdc b hb with h' | h'
   ·rw [h3.old b o (hold0 b h').2]
    exact hg0.old b o h'
   ·obtain ⟨q1,q2,q3,q4⟩:=hms b h'
    rw [h3.old b o (holdm b h')]
    show Φ b o=Φ0.imm b o
    have e1:Φ b o=none:=by
     cases hh:Φ b o with
     |none=>rfl
     |some u=>have:=RelG.fresh hg0 hh;omega
    have e2:Φ0.imm b o=none:=by
     cases hh:Φ0.imm b o with
     |none=>rfl
     |some u=>have:=(hext b o u hh).2;omega
    rw [e1,e2]
  ·have hSi:Kn σe i∧Kn G (i+o):=by
    rcases hi with hi|hi
    ·obtain ⟨qs,hqs⟩:=Option.ne_none_iff_exists'.1 hi
     obtain ⟨h1,ps',h2,-⟩:=hsub.b i qs hqs
     exact ⟨h1,Kn.ofb h2⟩
    ·obtain ⟨qs,hqs⟩:=Option.ne_none_iff_exists'.1 hi
     obtain ⟨h1,ps',h2,-⟩:=hsub.m i qs hqs
     exact ⟨h1,Kn.ofm h2⟩
   have hkF:Kn (F []) (i+o):=hk2 [] _ (hGL _ hSi.2)
   have hσ:σ.b i≠none∨σ.m i≠none:=by
    rcases hkF.spec with h' | h'
    ·obtain ⟨qs,hqs⟩:=Option.ne_none_iff_exists'.1 h'
     obtain ⟨-,ps',h2,-⟩:=hin.b _ qs hqs
     left;simp only [Nat.add_sub_cancel] at h2;rw [h2];simp
    ·obtain ⟨qs,hqs⟩:=Option.ne_none_iff_exists'.1 h'
     obtain ⟨-,ps',h2,-⟩:=hin.m _ qs hqs
     right;simp only [Nat.add_sub_cancel] at h2;rw [h2];simp
   have h5:μ i=some g:=hg0.kmu i g e hσ
   have h6:μ1 (i+o)=some g:=by
    rw [←hμ1]
    show (if _ then _ else _)=_
    rw [if_pos hkF,Nat.add_sub_cancel];exact h5
   show (if Kn σe i then μ3 (i+o) else none)=some g
   rw [if_pos hSi.1]
   exact h3.kmu (i+o) g h6 hSi.2.spec
  ·have h':=hext b o u e
   exact ⟨(h3.ext b o u h'.1).1,Nat.lt_of_lt_of_le h'.2 (Nat.le_trans hWw hwW)⟩
  ·have h' : ∃q,ω3 g=some q:=by
    have h1:=h4.mine g p e
    have h2:=h4.lt g p e
    rcases h1 with h1|h1
    ·simp at h1 h2;omega
    ·exact h1
   obtain ⟨q,hq⟩:=h'
   have hgl:g≠l:=by rintro rfl;exact h3l q hq
   rcases h3.mine g q hq with h1|h1
   ·exact .inl h1
   ·rcases h1 with ⟨p',hp'⟩|h1
    ·obtain ⟨⟨q',hq'⟩,-,hlt'⟩:=hω g p' hp'
     refine .inr ⟨hg0.mine g q' hq',Nat.lt_of_lt_of_le hlt' hwW,fun hm=>?_⟩
     have:=(hms g hm).1;omega
    ·exact absurd h1 hgl
 cases κ with
 |some xs=>
  obtain ⟨hip,hlr,hcj⟩:=hJ2
  obtain ⟨σe,h1,h2⟩:=done xs (hS xs rfl) hip
  have hend:=run_endLoop (P:=P) hlr (by rw [hrec];simp)
  rw [hrec] at hend
  obtain ⟨Φe,We,h3,h4⟩:=back (F xs) σe { rec .ready none with state:=.exhausted } (fun i hi=>hk1 xs i hi) h1 ⟨_,hlr⟩ hcj
  rw [hrec] at h4
  exact ⟨none,_,hend,σe,Φe,We,h2,h3,h4⟩
 |none=>
  obtain ⟨c,G,σe,⟨h1,h2,h3⟩,hlr,hcj⟩:=hJ2
  have hend:=run_endLoop (P:=P) hlr (by rw [hrec];simp)
  rw [hrec] at hend
  obtain ⟨Φe,We,h4,h5⟩:=back G σe { rec .done (some c) with state:=.exhausted } h1 h2 ⟨_,hlr⟩ hcj
  rw [hrec] at h5
  refine ⟨some c,_,hend,?_⟩
  simp only
  cases c with
  |ret=>exact wpIn_ret ⟨σe,Φe,We,h3,h4,h5⟩
  |exit i=>exact wpIn_exit ⟨σe,Φe,We,h3,h4,h5⟩
  |goto i=>exact wpIn_goto ⟨σe,Φe,We,h3,h4,h5⟩
  |_=>exact h3.elim
end
end Go.Proofs.YtoamkpgaaanafaaGreat

/- zone: functions that are handed functions. -/
namespace Go.Proofs.YtoamkpgaaanafaaGreat
set_option linter.unusedSimpArgs false
set_option linter.unusedVariables false
set_option linter.unnecessarySimpa false
open Go.RowKit
section
variable {P:Program} {T:Tab} {ops:Array Oper} {base:Nat} {ok:Nat→Nat→Bool} {i:Nat} {o:Oper} {rest:List (Nat×Oper)} {K:PS→Prop} {σ:PS}
theorem PWops.callV {c:Call} {x:Operand} {d:Nat} {f:FuncId} {caps args:List PV} {r:PV} (hf:Nat.blt f 1000000=true) (hp:PCalls P f args (· = r)) (hg:pguard ops σ o=some true) (hd:o.dst=some d) (hop:o.op = .call c) (hcal:c.callee = .value x) (hx:pev σ x = .fn f caps) (hargs:c.args.toList.map (pev σ) ++ caps=args)
  (k:PWops P T ops base ok rest K (σ.put d r)):PWops P T ops base ok ((i,o) :: rest) K σ:=by
 refine PWops.call hg hd ?_ hp k
 unfold pcall
 rw [hop]
 simp only [hcal,hx,hf,cond_true,hargs]
end
def idxF {α:Type} (p:α→Bool) (l:List α):Int:=match l.findIdx? p with
 |some i=>i
 |none => -1
theorem idxF_ge {α:Type} (p:α→Bool) (l:List α):decide (0≤idxF p l)=l.any p:=by
 unfold idxF
 cases h:l.findIdx? p with
 |none=>
  have:l.any p=false:=by
   rw [List.findIdx?_eq_none_iff] at h
   rw [List.any_eq_false]
   intro x hx
   simp [h x hx]
  rw [this];rfl
 |some i=>
  have:l.any p=true:=by
   obtain ⟨hi,h1,-⟩:=List.findIdx?_eq_some_iff_getElem.1 h
   rw [List.any_eq_true]
   exact ⟨l[i],List.getElem_mem hi,h1⟩
  rw [this];simp
theorem idxF_here {α:Type} {p:α→Bool} {l:List α} {k:Nat} (d:α) (hk:k < l.length) (hp:p (l.getD k d)=true) (hn:∀j,j < k→p (l.getD j d)=false):idxF p l=k:=by
 have:l.findIdx? p=some k:=by
  rw [List.findIdx?_eq_some_iff_getElem]
  refine ⟨hk,by simpa [List.getD_eq_getElem?_getD,hk] using hp,fun j hj=>?_⟩
  have:=hn j hj
  have hj' : j < l.length:=by omega
  simp [List.getD_eq_getElem?_getD,hj'] at this
  simp [this]
 unfold idxF
 rw [this]
theorem idxF_none {α:Type} {p:α→Bool} {l:List α} (d:α) (hn:∀j,j < l.length→p (l.getD j d)=false):idxF p l = -1:=by
 have:l.findIdx? p=none:=by
  rw [List.findIdx?_eq_none_iff]
  intro x hx
  obtain ⟨j,hj,rfl⟩:=List.getElem_of_mem hx
  have:=hn j hj
  simpa [List.getD_eq_getElem?_getD,hj] using this
 unfold idxF
 rw [this]
instance:Inhabited PEntry:=⟨⟨0,0,0,0,0,0,0,[],[]⟩⟩
instance:Inhabited PDef:=⟨⟨ByteArray.empty,0,0,0,[]⟩⟩
instance:Inhabited PAttr:=⟨⟨ByteArray.empty,0,0,ByteArray.empty⟩⟩
def pvecs (l:List (List Int)):PV:=.sl l.length 1 (l.map pints) none
theorem low_pvecs (l:List (List Int)):Low (pvecs l)↔True:=by
 simp only [pvecs,low_sl,iff_true]
 intro c hc
 obtain ⟨z,-,rfl⟩:=List.mem_map.1 hc
 exact (low_pints z).2 trivial
def pentries (l:List PEntry):PV:=.sl l.length 9 (l.flatMap entCellsP) none
theorem low_pentries (l:List PEntry):Low (pentries l)↔True:=by
 simp only [pentries,low_sl,iff_true]
 intro c hc
 obtain ⟨z,-,hz⟩:=List.mem_flatMap.1 hc
 exact low_entCells z c hz
structure PTruth where
 yes:Bool
 no:Bool
 deriving Inhabited,DecidableEq
def truthL (t:PTruth):List PV := [pbool t.yes,pbool t.no]
def ptruth (t:PTruth):PV:=.agg (truthL t)
def ptruths (l:List PTruth):PV:=.sl l.length 2 (l.flatMap truthL) none
theorem low_ptruths (l:List PTruth):Low (ptruths l)↔True:=by
 simp only [ptruths,low_sl,iff_true]
 intro c hc
 obtain ⟨z,-,hz⟩:=List.mem_flatMap.1 hc
 simp only [truthL,List.mem_cons,List.not_mem_nil,or_false] at hz
 rcases hz with rfl|rfl<;>exact .val _
-- ZGEN (printed by wip/zgen.py)
set_option maxRecDepth 10000 in
set_option maxHeartbeats 1000000 in
theorem pw_idxI (f:Nat) (caps:List PV) (p:Int→Bool) (l:List (Int)) (hf:Nat.blt f 1000000=true) (hl:l.length≤1000000000000) (hlow:∀c∈caps,Low c) (hp:∀k,k < l.length→PCalls Tryz.prog f (pint (l.getD k default) :: caps) (· = pbool (p (l.getD k default)))):PCalls Tryz.prog 255 [pints l, .fn f caps] (· = pint (idxF p l)):=by
 have hlow1:Low (.fn f caps):=.fn f caps hlow
 have hlow2:Low (pints l):=(low_pints l).2 trivial
 refine pcalls_of_pw typeTab_ok Tryz.func255 rfl (by kernel_rfl) (by simp [hlow2,hlow1]) (by simp [pints,PV.ownB]) (by rw [Tryz.ntmps255];simp) ?_
 rw [Tryz.ntmps255,Tryz.results255]
 refine wk ?_
 refine PW.loop (fun k:Nat=>((((bot.put 0 (pints l)).put 1 (.fn f caps)).put 7 (pint l.length)).put 8 (pint k))) (fun k=>k≤l.length∧∀j,j < k→p (l.getD j default)=false) (fun k=>l.length - k) 0 ⟨by omega,by simp⟩ ?_ ?_
 ·exact sb
 ·rintro k ⟨hk,hn⟩
  by_cases hlt:k < l.length
  ·refine wk ?_
   refine PWops.callV hf (hp k hlt) rfl rfl rfl rfl rfl rfl ?_
   cases hpk:p (l.getD k default) with
   |true=>
    refine wk ?_
    refine retP rfl (by exact lw) ?_
    rw [idxF_here default hlt hpk hn];rfl
   |false=>
    refine wk ?_
    refine loopP (k+1) ⟨by omega,fun j hj=>?_⟩ (by omega) ?_
    ·by_cases h:j=k
     ·rw [h];exact hpk
     ·exact hn j (by omega)
    ·exact sb
  ·refine wk ?_
   refine retP rfl (by exact lw) ?_
   rw [idxF_none default (fun j hj=>hn j (by omega))];rfl
set_option maxRecDepth 10000 in
theorem pw_anyI (f:Nat) (caps:List PV) (p:Int→Bool) (l:List (Int)) (hf:Nat.blt f 1000000=true) (hl:l.length≤1000000000000) (hlow:∀c∈caps,Low c) (hp:∀k,k < l.length→PCalls Tryz.prog f (pint (l.getD k default) :: caps) (· = pbool (p (l.getD k default)))):PCalls Tryz.prog 226 [pints l, .fn f caps] (· = pbool (l.any p)):=by
 have hlow1:Low (.fn f caps):=.fn f caps hlow
 have hlow2:Low (pints l):=(low_pints l).2 trivial
 have h:=pw_idxI f caps p l hf hl hlow hp
 refine pcalls_of_pw typeTab_ok Tryz.func226 rfl (by kernel_rfl) (by simp [hlow2,hlow1]) (by simp [pints,PV.ownB]) (by rw [Tryz.ntmps226];simp) ?_
 rw [Tryz.ntmps226,Tryz.results226]
 refine wk ?_
 refine PWops.boolS rfl rfl rfl rfl rfl ?_ ?_
 ·intro hsp
  refine wk ?_
  refine retP rfl (by exact lw) ?_
  rw [←idxF_ge,hsp];rfl
 ·intro hsp
  refine wk ?_
  refine retP rfl (by exact lw) ?_
  rw [←idxF_ge,hsp];rfl
set_option maxRecDepth 10000 in
set_option maxHeartbeats 1000000 in
theorem pw_idxV (f:Nat) (caps:List PV) (p:List Int→Bool) (l:List (List Int)) (hf:Nat.blt f 1000000=true) (hl:l.length≤1000000000000) (hlow:∀c∈caps,Low c) (hp:∀k,k < l.length→PCalls Tryz.prog f (pints (l.getD k default) :: caps) (· = pbool (p (l.getD k default)))):PCalls Tryz.prog 133 [pvecs l, .fn f caps] (· = pint (idxF p l)):=by
 have hlow1:Low (.fn f caps):=.fn f caps hlow
 have hlow2:Low (pvecs l):=(low_pvecs l).2 trivial
 refine pcalls_of_pw typeTab_ok Tryz.func133 rfl (by kernel_rfl) (by simp [hlow2,hlow1]) (by simp [pvecs,PV.ownB]) (by rw [Tryz.ntmps133];simp) ?_
 rw [Tryz.ntmps133,Tryz.results133]
 refine wk ?_
 refine PW.loop (fun k:Nat=>((((bot.put 0 (pvecs l)).put 1 (.fn f caps)).put 7 (pint l.length)).put 8 (pint k))) (fun k=>k≤l.length∧∀j,j < k→p (l.getD j default)=false) (fun k=>l.length - k) 0 ⟨by omega,by simp⟩ ?_ ?_
 ·exact sb
 ·rintro k ⟨hk,hn⟩
  by_cases hlt:k < l.length
  ·refine wk ?_
   refine PWops.callV hf (hp k hlt) rfl rfl rfl rfl rfl rfl ?_
   cases hpk:p (l.getD k default) with
   |true=>
    refine wk ?_
    refine retP rfl (by exact lw) ?_
    rw [idxF_here default hlt hpk hn];rfl
   |false=>
    refine wk ?_
    refine loopP (k+1) ⟨by omega,fun j hj=>?_⟩ (by omega) ?_
    ·by_cases h:j=k
     ·rw [h];exact hpk
     ·exact hn j (by omega)
    ·exact sb
  ·refine wk ?_
   refine retP rfl (by exact lw) ?_
   rw [idxF_none default (fun j hj=>hn j (by omega))];rfl
set_option maxRecDepth 10000 in
theorem pw_anyV (f:Nat) (caps:List PV) (p:List Int→Bool) (l:List (List Int)) (hf:Nat.blt f 1000000=true) (hl:l.length≤1000000000000) (hlow:∀c∈caps,Low c) (hp:∀k,k < l.length→PCalls Tryz.prog f (pints (l.getD k default) :: caps) (· = pbool (p (l.getD k default)))):PCalls Tryz.prog 55 [pvecs l, .fn f caps] (· = pbool (l.any p)):=by
 have hlow1:Low (.fn f caps):=.fn f caps hlow
 have hlow2:Low (pvecs l):=(low_pvecs l).2 trivial
 have h:=pw_idxV f caps p l hf hl hlow hp
 refine pcalls_of_pw typeTab_ok Tryz.func55 rfl (by kernel_rfl) (by simp [hlow2,hlow1]) (by simp [pvecs,PV.ownB]) (by rw [Tryz.ntmps55];simp) ?_
 rw [Tryz.ntmps55,Tryz.results55]
 refine wk ?_
 refine PWops.boolS rfl rfl rfl rfl rfl ?_ ?_
 ·intro hsp
  refine wk ?_
  refine retP rfl (by exact lw) ?_
  rw [←idxF_ge,hsp];rfl
 ·intro hsp
  refine wk ?_
  refine retP rfl (by exact lw) ?_
  rw [←idxF_ge,hsp];rfl
set_option maxRecDepth 10000 in
set_option maxHeartbeats 1000000 in
theorem pw_idxE (f:Nat) (caps:List PV) (p:PEntry→Bool) (l:List (PEntry)) (hf:Nat.blt f 1000000=true) (hl:l.length≤1000000000000) (hlow:∀c∈caps,Low c) (hp:∀k,k < l.length→PCalls Tryz.prog f (pentry (l.getD k default) :: caps) (· = pbool (p (l.getD k default)))):PCalls Tryz.prog 134 [pentries l, .fn f caps] (· = pint (idxF p l)):=by
 have hlow1:Low (.fn f caps):=.fn f caps hlow
 have hlow2:Low (pentries l):=(low_pentries l).2 trivial
 refine pcalls_of_pw typeTab_ok Tryz.func134 rfl (by kernel_rfl) (by simp [hlow2,hlow1]) (by simp [pentries,PV.ownB]) (by rw [Tryz.ntmps134];simp) ?_
 rw [Tryz.ntmps134,Tryz.results134]
 refine wk ?_
 refine PW.loop (fun k:Nat=>((((bot.put 0 (pentries l)).put 1 (.fn f caps)).put 7 (pint l.length)).put 8 (pint k))) (fun k=>k≤l.length∧∀j,j < k→p (l.getD j default)=false) (fun k=>l.length - k) 0 ⟨by omega,by simp⟩ ?_ ?_
 ·exact sb
 ·rintro k ⟨hk,hn⟩
  by_cases hlt:k < l.length
  ·refine wk ?_
   refine PWops.callV hf (hp k hlt) rfl rfl rfl rfl rfl rfl ?_
   cases hpk:p (l.getD k default) with
   |true=>
    refine wk ?_
    refine retP rfl (by exact lw) ?_
    rw [idxF_here default hlt hpk hn];rfl
   |false=>
    refine wk ?_
    refine loopP (k+1) ⟨by omega,fun j hj=>?_⟩ (by omega) ?_
    ·by_cases h:j=k
     ·rw [h];exact hpk
     ·exact hn j (by omega)
    ·exact sb
  ·refine wk ?_
   refine retP rfl (by exact lw) ?_
   rw [idxF_none default (fun j hj=>hn j (by omega))];rfl
set_option maxRecDepth 10000 in
theorem pw_anyE (f:Nat) (caps:List PV) (p:PEntry→Bool) (l:List (PEntry)) (hf:Nat.blt f 1000000=true) (hl:l.length≤1000000000000) (hlow:∀c∈caps,Low c) (hp:∀k,k < l.length→PCalls Tryz.prog f (pentry (l.getD k default) :: caps) (· = pbool (p (l.getD k default)))):PCalls Tryz.prog 56 [pentries l, .fn f caps] (· = pbool (l.any p)):=by
 have hlow1:Low (.fn f caps):=.fn f caps hlow
 have hlow2:Low (pentries l):=(low_pentries l).2 trivial
 have h:=pw_idxE f caps p l hf hl hlow hp
 refine pcalls_of_pw typeTab_ok Tryz.func56 rfl (by kernel_rfl) (by simp [hlow2,hlow1]) (by simp [pentries,PV.ownB]) (by rw [Tryz.ntmps56];simp) ?_
 rw [Tryz.ntmps56,Tryz.results56]
 refine wk ?_
 refine PWops.boolS rfl rfl rfl rfl rfl ?_ ?_
 ·intro hsp
  refine wk ?_
  refine retP rfl (by exact lw) ?_
  rw [←idxF_ge,hsp];rfl
 ·intro hsp
  refine wk ?_
  refine retP rfl (by exact lw) ?_
  rw [←idxF_ge,hsp];rfl
set_option maxRecDepth 10000 in
set_option maxHeartbeats 1000000 in
theorem pw_idxS (f:Nat) (caps:List PV) (p:ByteArray→Bool) (l:List (ByteArray)) (hf:Nat.blt f 1000000=true) (hl:l.length≤1000000000000) (hlow:∀c∈caps,Low c) (hp:∀k,k < l.length→PCalls Tryz.prog f (pstr (l.getD k default) :: caps) (· = pbool (p (l.getD k default)))):PCalls Tryz.prog 185 [pstrs l, .fn f caps] (· = pint (idxF p l)):=by
 have hlow1:Low (.fn f caps):=.fn f caps hlow
 have hlow2:Low (pstrs l):=(low_pstrs l).2 trivial
 refine pcalls_of_pw typeTab_ok Tryz.func185 rfl (by kernel_rfl) (by simp [hlow2,hlow1]) (by simp [pstrs,PV.ownB]) (by rw [Tryz.ntmps185];simp) ?_
 rw [Tryz.ntmps185,Tryz.results185]
 refine wk ?_
 refine PW.loop (fun k:Nat=>((((bot.put 0 (pstrs l)).put 1 (.fn f caps)).put 7 (pint l.length)).put 8 (pint k))) (fun k=>k≤l.length∧∀j,j < k→p (l.getD j default)=false) (fun k=>l.length - k) 0 ⟨by omega,by simp⟩ ?_ ?_
 ·exact sb
 ·rintro k ⟨hk,hn⟩
  by_cases hlt:k < l.length
  ·refine wk ?_
   refine PWops.callV hf (hp k hlt) rfl rfl rfl rfl rfl rfl ?_
   cases hpk:p (l.getD k default) with
   |true=>
    refine wk ?_
    refine retP rfl (by exact lw) ?_
    rw [idxF_here default hlt hpk hn];rfl
   |false=>
    refine wk ?_
    refine loopP (k+1) ⟨by omega,fun j hj=>?_⟩ (by omega) ?_
    ·by_cases h:j=k
     ·rw [h];exact hpk
     ·exact hn j (by omega)
    ·exact sb
  ·refine wk ?_
   refine retP rfl (by exact lw) ?_
   rw [idxF_none default (fun j hj=>hn j (by omega))];rfl
set_option maxRecDepth 10000 in
theorem pw_anyS (f:Nat) (caps:List PV) (p:ByteArray→Bool) (l:List (ByteArray)) (hf:Nat.blt f 1000000=true) (hl:l.length≤1000000000000) (hlow:∀c∈caps,Low c) (hp:∀k,k < l.length→PCalls Tryz.prog f (pstr (l.getD k default) :: caps) (· = pbool (p (l.getD k default)))):PCalls Tryz.prog 104 [pstrs l, .fn f caps] (· = pbool (l.any p)):=by
 have hlow1:Low (.fn f caps):=.fn f caps hlow
 have hlow2:Low (pstrs l):=(low_pstrs l).2 trivial
 have h:=pw_idxS f caps p l hf hl hlow hp
 refine pcalls_of_pw typeTab_ok Tryz.func104 rfl (by kernel_rfl) (by simp [hlow2,hlow1]) (by simp [pstrs,PV.ownB]) (by rw [Tryz.ntmps104];simp) ?_
 rw [Tryz.ntmps104,Tryz.results104]
 refine wk ?_
 refine PWops.boolS rfl rfl rfl rfl rfl ?_ ?_
 ·intro hsp
  refine wk ?_
  refine retP rfl (by exact lw) ?_
  rw [←idxF_ge,hsp];rfl
 ·intro hsp
  refine wk ?_
  refine retP rfl (by exact lw) ?_
  rw [←idxF_ge,hsp];rfl
set_option maxRecDepth 10000 in
set_option maxHeartbeats 1000000 in
theorem pw_idxT (f:Nat) (caps:List PV) (p:PTruth→Bool) (l:List (PTruth)) (hf:Nat.blt f 1000000=true) (hl:l.length≤1000000000000) (hlow:∀c∈caps,Low c) (hp:∀k,k < l.length→PCalls Tryz.prog f (ptruth (l.getD k default) :: caps) (· = pbool (p (l.getD k default)))):PCalls Tryz.prog 263 [ptruths l, .fn f caps] (· = pint (idxF p l)):=by
 have hlow1:Low (.fn f caps):=.fn f caps hlow
 have hlow2:Low (ptruths l):=(low_ptruths l).2 trivial
 refine pcalls_of_pw typeTab_ok Tryz.func263 rfl (by kernel_rfl) (by simp [hlow2,hlow1]) (by simp [ptruths,PV.ownB]) (by rw [Tryz.ntmps263];simp) ?_
 rw [Tryz.ntmps263,Tryz.results263]
 refine wk ?_
 refine PW.loop (fun k:Nat=>((((bot.put 0 (ptruths l)).put 1 (.fn f caps)).put 7 (pint l.length)).put 8 (pint k))) (fun k=>k≤l.length∧∀j,j < k→p (l.getD j default)=false) (fun k=>l.length - k) 0 ⟨by omega,by simp⟩ ?_ ?_
 ·exact sb
 ·rintro k ⟨hk,hn⟩
  by_cases hlt:k < l.length
  ·refine wk ?_
   refine PWops.callV hf (hp k hlt) rfl rfl rfl rfl rfl rfl ?_
   cases hpk:p (l.getD k default) with
   |true=>
    refine wk ?_
    refine retP rfl (by exact lw) ?_
    rw [idxF_here default hlt hpk hn];rfl
   |false=>
    refine wk ?_
    refine loopP (k+1) ⟨by omega,fun j hj=>?_⟩ (by omega) ?_
    ·by_cases h:j=k
     ·rw [h];exact hpk
     ·exact hn j (by omega)
    ·exact sb
  ·refine wk ?_
   refine retP rfl (by exact lw) ?_
   rw [idxF_none default (fun j hj=>hn j (by omega))];rfl
set_option maxRecDepth 10000 in
theorem pw_anyT (f:Nat) (caps:List PV) (p:PTruth→Bool) (l:List (PTruth)) (hf:Nat.blt f 1000000=true) (hl:l.length≤1000000000000) (hlow:∀c∈caps,Low c) (hp:∀k,k < l.length→PCalls Tryz.prog f (ptruth (l.getD k default) :: caps) (· = pbool (p (l.getD k default)))):PCalls Tryz.prog 240 [ptruths l, .fn f caps] (· = pbool (l.any p)):=by
 have hlow1:Low (.fn f caps):=.fn f caps hlow
 have hlow2:Low (ptruths l):=(low_ptruths l).2 trivial
 have h:=pw_idxT f caps p l hf hl hlow hp
 refine pcalls_of_pw typeTab_ok Tryz.func240 rfl (by kernel_rfl) (by simp [hlow2,hlow1]) (by simp [ptruths,PV.ownB]) (by rw [Tryz.ntmps240];simp) ?_
 rw [Tryz.ntmps240,Tryz.results240]
 refine wk ?_
 refine PWops.boolS rfl rfl rfl rfl rfl ?_ ?_
 ·intro hsp
  refine wk ?_
  refine retP rfl (by exact lw) ?_
  rw [←idxF_ge,hsp];rfl
 ·intro hsp
  refine wk ?_
  refine retP rfl (by exact lw) ?_
  rw [←idxF_ge,hsp];rfl
set_option maxRecDepth 10000 in
set_option maxHeartbeats 1000000 in
theorem pw_idxD (f:Nat) (caps:List PV) (p:PDef→Bool) (l:List (PDef)) (hf:Nat.blt f 1000000=true) (hl:l.length≤1000000000000) (hlow:∀c∈caps,Low c) (hp:∀k,k < l.length→PCalls Tryz.prog f (.agg (pdefL (l.getD k default)) :: caps) (· = pbool (p (l.getD k default)))):PCalls Tryz.prog 175 [pdefs l, .fn f caps] (· = pint (idxF p l)):=by
 have hlow1:Low (.fn f caps):=.fn f caps hlow
 have hlow2:Low (pdefs l):=(low_pdefs l).2 trivial
 refine pcalls_of_pw typeTab_ok Tryz.func175 rfl (by kernel_rfl) (by simp [hlow2,hlow1]) (by simp [pdefs,PV.ownB]) (by rw [Tryz.ntmps175];simp) ?_
 rw [Tryz.ntmps175,Tryz.results175]
 refine wk ?_
 refine PW.loop (fun k:Nat=>((((bot.put 0 (pdefs l)).put 1 (.fn f caps)).put 7 (pint l.length)).put 8 (pint k))) (fun k=>k≤l.length∧∀j,j < k→p (l.getD j default)=false) (fun k=>l.length - k) 0 ⟨by omega,by simp⟩ ?_ ?_
 ·exact sb
 ·rintro k ⟨hk,hn⟩
  by_cases hlt:k < l.length
  ·refine wk ?_
   refine PWops.callV hf (hp k hlt) rfl rfl rfl rfl rfl rfl ?_
   cases hpk:p (l.getD k default) with
   |true=>
    refine wk ?_
    refine retP rfl (by exact lw) ?_
    rw [idxF_here default hlt hpk hn];rfl
   |false=>
    refine wk ?_
    refine loopP (k+1) ⟨by omega,fun j hj=>?_⟩ (by omega) ?_
    ·by_cases h:j=k
     ·rw [h];exact hpk
     ·exact hn j (by omega)
    ·exact sb
  ·refine wk ?_
   refine retP rfl (by exact lw) ?_
   rw [idxF_none default (fun j hj=>hn j (by omega))];rfl
-- NEGZ
end Go.Proofs.YtoamkpgaaanafaaGreat

/- box: vectors and boxes. -/
namespace Go.Proofs.YtoamkpgaaanafaaGreat
set_option linter.unusedSimpArgs false
set_option linter.unusedVariables false
set_option linter.unnecessarySimpa false
open Go.RowKit
structure PBox where
 lo:List Int
 hi:List Int
 deriving DecidableEq,Inhabited
def pboxL (b:PBox):List PV := [pints b.lo,pints b.hi]
def pbox (b:PBox):PV:=.agg (pboxL b)
theorem low_pboxL (b:PBox):∀c∈pboxL b,Low c:=by
 intro c hc
 simp only [pboxL,List.mem_cons,List.not_mem_nil,or_false] at hc
 rcases hc with rfl|rfl<;>exact (low_pints _).2 trivial
theorem low_pbox (b:PBox):Low (pbox b)↔True:=⟨fun _=>trivial,fun _=>.agg _ (low_pboxL b)⟩
def farB (n:Int):Bool:=decide (n < -1000) || decide (1000 < n)
def vecB (v:List Int):Bool:=decide (1≤v.length) && (decide (v.length≤32) && !v.any farB)
set_option maxRecDepth 10000 in
theorem pw_far (n:Int):PCalls Tryz.prog 225 [pint n] (· = pbool (farB n)):=by
 refine pcalls_of_pw typeTab_ok Tryz.func225 rfl (by kernel_rfl) (by simp [low_pint]) (by simp [pint,PV.ownB]) (by rw [Tryz.ntmps225];simp) ?_
 rw [Tryz.ntmps225,Tryz.results225]
 unfold farB
 by_cases h1:n < -1000
 ·refine wk ?_
  refine retP rfl (by exact lw) ?_
  simp [pbool,h1]
 ·by_cases h2:1000 < n
  ·refine wk ?_
   refine retP rfl (by exact lw) ?_
   simp [pbool,h2]
  ·refine wk ?_
   refine retP rfl (by exact lw) ?_
   simp [pbool,h1,h2]
set_option maxRecDepth 10000 in
theorem pw_isVector (v:List Int) (hl:v.length≤1000000000000):PCalls Tryz.prog 136 [pints v] (· = pbool (vecB v)):=by
 have h:=pw_anyI 225 [] farB v rfl hl (by simp) (fun k _=>pw_far _)
 refine pcalls_of_pw typeTab_ok Tryz.func136 rfl (by kernel_rfl) (by simp [low_pints]) (by simp [pints,PV.ownB]) (by rw [Tryz.ntmps136];simp) ?_
 rw [Tryz.ntmps136,Tryz.results136]
 unfold vecB
 by_cases h1:1≤v.length
 ·by_cases h2:v.length≤32
  ·refine wk ?_
   cases hb:v.any farB <;>
   ·rw [hb] at *
    refine wk ?_
    refine retP rfl (by exact lw) ?_
    simp [pbool,h1,h2]
  ·refine wk ?_
   refine retP rfl (by exact lw) ?_
   simp [pbool,h2]
 ·refine wk ?_
  refine retP rfl (by exact lw) ?_
  simp [pbool,h1]
def prsL (a b:List Int):List (List PV):=(List.range (min a.length b.length)).map fun k => [pint (a.getD k default),pint (b.getD k default)]
theorem prsL_len (a b:List Int):(prsL a b).length=min a.length b.length:=by simp [prsL]
theorem prsL_take {a b:List Int} {k:Nat} (h:k < min a.length b.length):(prsL a b).take (k+1)=(prsL a b).take k ++ [[pint (a.getD k default),pint (b.getD k default)]]:=by
 rw [List.take_add_one]
 congr 1
 simp [prsL,h]
def Part (xs pre:List (List PV)):Prop:=∃k,pre=xs.take k
set_option maxRecDepth 10000 in
set_option maxHeartbeats 1000000 in
theorem it_pairs (a b:List Int) (ha:a.length≤1000000000000) (hb:b.length≤1000000000000):ItSpec Tryz.prog 231 [.ep [pints a] 0, .ep [pints b] 0] (Part (prsL a b)) (· = prsL a b):=by
 refine itspec_of_pwj typeTab_ok Tryz.func231 rfl (by kernel_rfl) (by simp [low_ep,low_pints]) (by simp [PV.ownB]) (by rw [Tryz.ntmps231];simp) ?_
 intro E Φ0 W l hgiv hy hr
 rw [Tryz.ntmps231,Tryz.results231]
 refine jw0 ?_
 refine PWJ.of_pw ?_
 refine wk ?_
 refine jw0 ?_
 simp only [Bool.false_eq_true,if_false]
 rw [show (if (b.length:Int) < a.length then (b.length:Int) else a.length)=((min a.length b.length:Nat):Int) from by split<;>omega]
 obtain ⟨m,hm⟩:∃m,m=min a.length b.length:=⟨_,rfl⟩
 rw [←hm]
 refine PWJ.loop (fun k:Nat=>(((((bot.put 0 (.val (.func (.yield l) #[] #[]))).put 1 (.ep [pints a] 0)).put 2 (.ep [pints b] 0)).put 9 (pint m)).put 10 (pint k))) (fun k=>some ((prsL a b).take k)) (fun k=>k≤m) (fun k=>m - k) 0 (by omega) ?_ rfl ?_
 ·exact sb
 ·intro k hk
  by_cases hlt:k < m
  ·refine jw0 ?_
   refine PWJ.of_pw ?_
   refine wk ?_
   refine jw0 ?_
   refine PWJ.of_pw ?_
   refine wk ?_
   refine jw0 ?_
   refine PWJ.drawN 9 (x := [pint (a.getD k default),pint (b.getD k default)]) (d:=22) typeTab_ok (by kernel_rfl) hgiv hy hr (by kernel_rfl) (by kernel_rfl) (by rfl) (by rfl) ?_
   refine wk ?_
   refine ⟨⟨rfl,by decide,⟨_,_,rfl,rfl,rfl,rfl⟩,rfl,by simp [low_pint],⟨k+1,(prsL_take (by omega)).symm⟩,fun id bs e=>(by cases e),fun id es c e=>(by cases e)⟩,fun b' => ?_⟩
   cases b' with
   |true=>
    refine wk ?_
    refine jw0 ?_
    refine PWJ.of_pw ?_
    refine wk ?_
    refine jw0 ?_
    refine loopJ (k+1) (by omega) (by omega) ?_ ?_
    ·exact sb
    ·simp only [if_true];rw [prsL_take (by omega)]
   |false=>
    refine wk ?_
    refine jw0 ?_
    exact ⟨⟨_,rfl⟩,fun xs e=>by simp at e⟩
  ·refine jw0 ?_
   refine PWJ.of_pw ?_
   refine wk ?_
   refine jw0 ?_
   exact ⟨⟨_,rfl⟩,fun xs e=>by simp at e;rw [←e];exact List.take_of_length_le (by rw [prsL_len];omega)⟩
theorem part_x {a b:List Int} {pre:List (List PV)} {x:List PV} (h:Part (prsL a b) (pre ++ [x])):∃k,k < min a.length b.length∧x = [pint (a.getD k default),pint (b.getD k default)]∧pre=(prsL a b).take k:=by
 obtain ⟨k,hk⟩:=h
 have hl:pre.length+1=min k (prsL a b).length:=by
  have:=congrArg List.length hk
  simpa using this
 obtain ⟨j,rfl⟩:∃j,j=pre.length:=⟨_,rfl⟩
 have hj:pre.length < min a.length b.length:=by rw [prsL_len] at hl;omega
 refine ⟨pre.length,hj,?_,?_⟩
 ·have h1:(pre ++ [x])[pre.length]? = some x:=by simp
  rw [hk,List.getElem?_take,if_pos (by omega)] at h1
  simp only [prsL,List.getElem?_map,List.getElem?_range hj,Option.map_some,Option.some.injEq] at h1
  exact h1.symm
 ·have h1:pre=(pre ++ [x]).take pre.length:=by simp
  rw [hk,List.take_take] at h1
  rw [h1]
  congr 1
  simp;omega
set_option maxRecDepth 10000 in
theorem pw_pairs (a b:List Int):PCalls Tryz.prog 146 [pints a,pints b] (· = .fn 231 [.ep [pints a] 0, .ep [pints b] 0]):=by
 refine pcalls_of_pw typeTab_ok Tryz.func146 rfl (by kernel_rfl) (by simp [low_pints]) (by simp [pints,PV.ownB]) (by rw [Tryz.ntmps146];simp) ?_
 rw [Tryz.ntmps146,Tryz.results146]
 refine PW.seq ?_
 refine PW.region typeTab_ok (by kernel_rfl) ?_
 refine wg ?_
 refine PW.freezeP (id:=0) (s:=2) (off:=0) (σ':=(bot.setb 1 [pints b]).put 3 (.ptr 1 0)) rfl rfl (fun c hc=>by simp only [List.mem_cons,List.not_mem_nil,or_false] at hc;subst hc;exact (low_pints _).2 trivial) (by exact sbr0) rfl ?_
 refine PW.freezeP (id:=1) (s:=3) (off:=0) (σ':=bot.put 2 (.ep [pints a] 0)) rfl rfl (fun c hc=>by simp only [List.mem_cons,List.not_mem_nil,or_false] at hc;subst hc;exact (low_pints _).2 trivial) (by exact sbr0) rfl ?_
 refine wk ?_
 exact retP rfl (by simp [low_fn,low_ep,low_pints]) rfl
def boxB (b:PBox):Bool:=vecB b.lo && (vecB b.hi && (decide (b.lo.length=b.hi.length) && (List.range b.lo.length).all fun k=>decide (b.lo.getD k default≤b.hi.getD k default)))
set_option maxRecDepth 10000 in
set_option maxHeartbeats 1000000 in
theorem pw_boxValid (b:PBox) (h1:b.lo.length≤1000000000000) (h2:b.hi.length≤1000000000000):PCalls Tryz.prog 65 [pbox b] (· = pbool (boxB b)):=by
 have hv1:=pw_isVector b.lo h1
 have hv2:=pw_isVector b.hi h2
 have hp:=pw_pairs b.lo b.hi
 have hl1:=low_pboxL b
 refine pcalls_of_pw typeTab_ok Tryz.func65 rfl (by kernel_rfl) (by simp [low_pbox]) (by simp [pbox,PV.ownB]) (by rw [Tryz.ntmps65];simp) ?_
 rw [Tryz.ntmps65,Tryz.results65]
 unfold boxB pbox pboxL at *
 by_cases e1:vecB b.lo=true
 ·by_cases e2:vecB b.hi=true
  ·by_cases e3:b.lo.length=b.hi.length
   ·rw [e1] at hv1
    rw [e2] at hv2
    refine wk ?_
    refine PW.rangeFunc (A:=Part (prsL b.lo b.hi)) (S:=(· = prsL b.lo b.hi)) 3000000 [3000001] (fun _=>(bot.setb 3000001 [pbool false]).put 2 (.ptr 3000001 0)) (fun pre=>∀x∈pre,∃u v:Int,x = [pint u,pint v]∧u≤v) (by simp) rfl rfl (by simp [low_ep,low_pints]) (it_pairs _ _ h1 h2) (by exact sbr0) (fun pre=>by exact kn0) (by intro pre i hi;simp only [List.mem_cons,List.not_mem_nil,or_false] at hi;rcases hi with rfl|rfl|rfl|rfl|rfl<;>rfl) rfl (by decide) (fun pre=>by exact ow0) (by simp) ?_ ?_ ?_
    ·intro pre x hx
     obtain ⟨k,-,rfl,-⟩:=part_x hx
     refine ⟨rfl,fun p hp=>?_⟩
     simp only [List.mem_cons,List.not_mem_nil,or_false] at hp
     rcases hp with rfl|rfl<;>exact ⟨.val _,rfl⟩
    ·intro pre x hI hx
     obtain ⟨k,hk,rfl,-⟩:=part_x hx
     simp only [putps]
     refine wk ?_
     refine normP ?_
     by_cases hle:b.lo.getD k default≤b.hi.getD k default
     ·refine wk ?_
      refine roundP ?_ (by exact sb) (by exact lt0)
      intro y hy
      rcases List.mem_append.1 hy with hy|hy
      ·exact hI y hy
      ·simp only [List.mem_cons,List.not_mem_nil,or_false] at hy
       exact ⟨_,_,hy,hle⟩
     ·refine wk ?_
      refine roundP_ret ((bot.setb 3000001 [pbool false]).put 2 (.ptr 3000001 0)) ((bot.setb 1 [pbool false]).put 2 (.ptr 1 0)) (by exact lt0) (by exact sb) (by exact kn0) (by exact sbr0) ?_
      refine blockP_ret (thenP_ret (retP rfl (by exact lw) ?_))
      have:((List.range b.lo.length).all fun k=>decide (b.lo.getD k default≤b.hi.getD k default))=false:=by
       rw [List.all_eq_false]
       exact ⟨k,by simp;omega,by simpa using hle⟩
      rw [this,e1,e2]
      simp [pbool]
    ·intro xs hxs hI
     subst hxs
     refine ⟨(bot.setb 1 [pbool false]).put 2 (.ptr 1 0),by exact sbr0,?_⟩
     refine wk ?_
     refine retP rfl (by exact lw) ?_
     have:((List.range b.lo.length).all fun k=>decide (b.lo.getD k default≤b.hi.getD k default))=true:=by
      rw [List.all_eq_true]
      intro k hk
      have hk' : k < b.lo.length:=by simpa using hk
      obtain ⟨u,v,h1,h2⟩:=hI [pint (b.lo.getD k default),pint (b.hi.getD k default)] (List.mem_map.2 ⟨k,by simp;omega,rfl⟩)
      simp only [List.cons.injEq,pint,PV.val.injEq,Value.int.injEq,true_and,and_true] at h1
      rw [decide_eq_true_eq,h1.1,h1.2]
      exact h2
     rw [this,e1,e2]
     simp [pbool,e3]
   ·rw [e1] at hv1
    rw [e2] at hv2
    refine wk ?_
    refine retP rfl (by exact lw) ?_
    simp [pbool,e3]
  ·simp only [Bool.not_eq_true] at e2
   rw [e1] at hv1
   rw [e2] at hv2
   refine wk ?_
   refine retP rfl (by exact lw) ?_
   simp [pbool,e2]
 ·simp only [Bool.not_eq_true] at e1
  rw [e1] at hv1
  refine wk ?_
  refine retP rfl (by exact lw) ?_
  simp [pbool,e1]
end Go.Proofs.YtoamkpgaaanafaaGreat

/- vector. -/
namespace Go.Proofs.YtoamkpgaaanafaaGreat
set_option linter.unusedSimpArgs false
set_option linter.unusedVariables false
set_option linter.unnecessarySimpa false
open Go.RowKit
def inB (x:Int):Bool:=decide (-1000≤x) && decide (x≤1000)
set_option maxRecDepth 10000 in
theorem pw_valid1 (s:Bool) (x:Int):PCalls Tryz.prog 100 [pbool s,pint x] (· = pbool (s && inB x)):=by
 refine pcalls_of_pw typeTab_ok Tryz.func100 rfl (by kernel_rfl) (by simp [low_pint,low_pbool]) (by simp [pint,pbool,PV.ownB]) (by rw [Tryz.ntmps100];simp) ?_
 rw [Tryz.ntmps100,Tryz.results100]
 cases s
 ·refine wk ?_
  exact retP rfl (by exact lw) rfl
 ·by_cases h1 : -1000≤x
  ·by_cases h2:x≤1000
   ·refine wk ?_
    exact retP rfl (by exact lw) (by simp [pbool,inB,h1,h2])
   ·refine wk ?_
    exact retP rfl (by exact lw) (by simp [pbool,inB,h2])
  ·refine wk ?_
   exact retP rfl (by exact lw) (by simp [pbool,inB,h1])
theorem foldl_take {α β:Type} [Inhabited β] (g:α→β→α) (n:α) (v:List β) {k:Nat} (h:k < v.length):(v.take (k+1)).foldl g n=g ((v.take k).foldl g n) (v.getD k default):=by
 rw [List.take_add_one,List.getElem?_eq_getElem h,List.foldl_append,List.getD_eq_getElem?_getD,List.getElem?_eq_getElem h]
 rfl
set_option maxRecDepth 10000 in
set_option maxHeartbeats 1000000 in
theorem pw_foldB (f:Nat) (g:Bool→Int→Bool) (v:List Int) (n:Bool) (hf:Nat.blt f 1000000=true) (hl:v.length≤1000000) (hp:∀k,k < v.length→PCalls Tryz.prog f [pbool ((v.take k).foldl g n),pint (v.getD k default)] (· = pbool (g ((v.take k).foldl g n) (v.getD k default)))):PCalls Tryz.prog 99 [pints v,pbool n, .fn f []] (· = pbool (v.foldl g n)):=by
 have hlow1:Low (.fn f []):=.fn f [] (by simp)
 refine pcalls_of_pw typeTab_ok Tryz.func99 rfl (by kernel_rfl) (by simp [low_pints,low_pbool,hlow1]) (by simp [pints,pbool,PV.ownB]) (by rw [Tryz.ntmps99];simp) ?_
 rw [Tryz.ntmps99,Tryz.results99]
 refine wk ?_
 refine PW.loop (fun k:Nat=>(((((bot.put 1 (pbool ((v.take k).foldl g n))).put 2 (.fn f [])).put 9 (pints v)).put 10 (pint v.length)).put 11 (pint k))) (fun k=>k≤v.length) (fun k=>v.length - k) 0 (by omega) ?_ ?_
 ·exact sb
 ·intro k hk
  by_cases hlt:k < v.length
  ·refine wk ?_
   refine PWops.callV hf (hp k hlt) rfl rfl rfl rfl rfl rfl ?_
   refine wk ?_
   refine loopP (k+1) (by omega) (by omega) ?_
   simp only [foldl_take g n v hlt]
   exact sb
  ·refine wk ?_
   refine retP rfl (by exact lw) ?_
   rw [List.take_of_length_le (by omega)];rfl
set_option maxRecDepth 10000 in
set_option maxHeartbeats 1000000 in
theorem pw_foldI (f:Nat) (g:Int→Int→Int) (v:List Int) (n:Int) (hf:Nat.blt f 1000000=true) (hl:v.length≤1000000) (hp:∀k,k < v.length→PCalls Tryz.prog f [pint ((v.take k).foldl g n),pint (v.getD k default)] (· = pint (g ((v.take k).foldl g n) (v.getD k default)))):PCalls Tryz.prog 190 [pints v,pint n, .fn f []] (· = pint (v.foldl g n)):=by
 have hlow1:Low (.fn f []):=.fn f [] (by simp)
 refine pcalls_of_pw typeTab_ok Tryz.func190 rfl (by kernel_rfl) (by simp [low_pints,low_pint,hlow1]) (by simp [pints,pint,PV.ownB]) (by rw [Tryz.ntmps190];simp) ?_
 rw [Tryz.ntmps190,Tryz.results190]
 refine wk ?_
 refine PW.loop (fun k:Nat=>(((((bot.put 1 (pint ((v.take k).foldl g n))).put 2 (.fn f [])).put 9 (pints v)).put 10 (pint v.length)).put 11 (pint k))) (fun k=>k≤v.length) (fun k=>v.length - k) 0 (by omega) ?_ ?_
 ·exact sb
 ·intro k hk
  by_cases hlt:k < v.length
  ·refine wk ?_
   refine PWops.callV hf (hp k hlt) rfl rfl rfl rfl rfl rfl ?_
   refine wk ?_
   refine loopP (k+1) (by omega) (by omega) ?_
   simp only [foldl_take g n v hlt]
   exact sb
  ·refine wk ?_
   refine retP rfl (by exact lw) ?_
   rw [List.take_of_length_le (by omega)];rfl
theorem vecB_fold (v:List Int):(v.foldl (fun s x=>s && inB x) true) = !v.any farB:=by
 have:∀(v:List Int) (s:Bool),v.foldl (fun s x=>s && inB x) s=(s && !v.any farB):=by
  intro v
  induction v with
  |nil=>intro s;simp
  |cons x v ih=>
   intro s
   rw [List.foldl_cons,ih,List.any_cons]
   have:inB x = !farB x:=by
    simp only [inB,farB,Bool.not_or]
    congr 1<;>rw [←decide_not]<;>congr 1<;>simp
   rw [this]
   cases s<;>cases farB x<;>simp
 simpa using this v true
set_option maxRecDepth 10000 in
theorem pw_vecValid (v:List Int) (hl:v.length≤1000000):PCalls Tryz.prog 38 [pints v] (· = pbool (vecB v)):=by
 have h:=pw_foldB 100 (fun s x=>s && inB x) v true rfl hl (fun k _=>pw_valid1 _ _)
 rw [vecB_fold] at h
 refine pcalls_of_pw typeTab_ok Tryz.func38 rfl (by kernel_rfl) (by simp [low_pints]) (by simp [pints,PV.ownB]) (by rw [Tryz.ntmps38];simp) ?_
 rw [Tryz.ntmps38,Tryz.results38]
 unfold vecB
 cases hb:v.any farB with
 |true=>
  rw [hb] at h
  refine wk ?_
  exact retP rfl (by exact lw) (by simp [pbool])
 |false=>
  rw [hb] at h
  by_cases h1:1≤v.length
  ·by_cases h2:v.length≤32
   ·refine wk ?_
    exact retP rfl (by exact lw) (by simp [pbool,h1,h2])
   ·refine wk ?_
    exact retP rfl (by exact lw) (by simp [pbool,h2])
  ·refine wk ?_
   exact retP rfl (by exact lw) (by simp [pbool,h1])
end Go.Proofs.YtoamkpgaaanafaaGreat

/- box: Has, Inside, zip, Of, Join. -/
namespace Go.Proofs.YtoamkpgaaanafaaGreat
set_option linter.unusedSimpArgs false
set_option linter.unusedVariables false
set_option linter.unnecessarySimpa false
open Go.RowKit
def hasK (b:PBox) (v:List Int) (k:Nat):Bool:=decide (b.lo.getD k default≤v.getD k default) && decide (v.getD k default≤b.hi.getD k default)
def boxHas (b:PBox) (v:List Int):Bool:=boxB b && (decide (v.length=b.lo.length) && (List.range v.length).all (hasK b v))
theorem boxB_len {b:PBox} (h:boxB b=true):b.lo.length=b.hi.length∧b.lo.length≤32∧1≤b.lo.length:=by
 simp only [boxB,vecB,Bool.and_eq_true,decide_eq_true_eq] at h
 omega
set_option maxRecDepth 10000 in
set_option maxHeartbeats 1000000 in
theorem pw_boxHas (b : PBox) (v : List Int) (h1 : b.lo.length ≤ 1000000000000) (h2 : b.hi.length ≤ 1000000000000) (h3 : v.length ≤ 1000000000000) : PCalls Tryz.prog 72 [pbox b, pints v] (· = pbool (boxHas b v)) := by
  have hv := pw_boxValid b h1 h2
  have hl1 := low_pboxL b
  refine pcalls_of_pw typeTab_ok Tryz.func72 rfl (by kernel_rfl) (by simp [low_pbox, low_pints]) (by simp [pbox, pints, PV.ownB]) (by rw [Tryz.ntmps72]; simp) ?_
  rw [Tryz.ntmps72, Tryz.results72]
  unfold boxHas
  by_cases e1 : boxB b = true
  · obtain ⟨q1, q2, q3⟩ := boxB_len e1
    rw [e1] at hv
    unfold pbox pboxL at *
    by_cases e2 : v.length = b.lo.length
    · refine wk ?_
      refine PW.loop (fun k : Nat => (((((bot.setb 0 [pints b.lo, pints b.hi]).put 2 (.ptr 0 0)).put 18 (pints v)).put 19 (pint v.length)).put 20 (pint k))) (fun k => k ≤ v.length ∧ ∀ j, j < k → hasK b v j = true) (fun k => v.length - k) 0 ⟨by omega, by simp⟩ ?_ ?_
      · exact sb
      · rintro k ⟨hk, hn⟩
        by_cases hlt : k < v.length
        · by_cases c1 : b.lo.getD k default ≤ v.getD k default
          · by_cases c2 : v.getD k default ≤ b.hi.getD k default
            · refine wk ?_
              refine loopP (k + 1) ⟨by omega, fun j hj => ?_⟩ (by omega) ?_
              · by_cases h : j = k
                · rw [h, hasK, decide_eq_true c1, decide_eq_true c2]; rfl
                · exact hn j (by omega)
              · exact sb
            · refine wk ?_
              refine retP rfl (by exact lw) ?_
              have : (List.range v.length).all (hasK b v) = false := by
                rw [List.all_eq_false]
                exact ⟨k, by simpa using hlt, by simp only [hasK, decide_eq_false c2, Bool.and_false]; simp⟩
              simp [pbool, this]
          · refine wk ?_
            refine retP rfl (by exact lw) ?_
            have : (List.range v.length).all (hasK b v) = false := by
              rw [List.all_eq_false]
              exact ⟨k, by simpa using hlt, by simp only [hasK, decide_eq_false c1, Bool.false_and]; simp⟩
            simp [pbool, this]
        · refine wk ?_
          refine retP rfl (by exact lw) ?_
          have : (List.range v.length).all (hasK b v) = true := by
            rw [List.all_eq_true]
            intro j hj
            exact hn j (by have : j < v.length := by simpa using hj
                           omega)
          rw [this, e1]; simp [pbool, e2]
    · refine wk ?_
      refine retP rfl (by exact lw) ?_
      simp [pbool, e2]
  · simp only [Bool.not_eq_true] at e1
    rw [e1] at hv
    unfold pbox pboxL at *
    refine wk ?_
    refine retP rfl (by exact lw) ?_
    simp [pbool, e1]
def boxIn (a b:PBox):Bool:=boxB a && (boxHas b a.lo && boxHas b a.hi)
set_option maxRecDepth 10000 in
set_option maxHeartbeats 1000000 in
theorem pw_boxIn (a b:PBox) (h1:a.lo.length≤1000000000000) (h2:a.hi.length≤1000000000000) (h3:b.lo.length≤1000000000000) (h4:b.hi.length≤1000000000000):PCalls Tryz.prog 101 [pbox a,pbox b] (· = pbool (boxIn a b)):=by
 have hv:=pw_boxValid a h1 h2
 have ha:=pw_boxHas b a.lo h3 h4 h1
 have hb:=pw_boxHas b a.hi h3 h4 h2
 have hl1:=low_pboxL a
 have hl2:=low_pboxL b
 refine pcalls_of_pw typeTab_ok Tryz.func101 rfl (by kernel_rfl) (by simp [low_pbox]) (by simp [pbox,PV.ownB]) (by rw [Tryz.ntmps101];simp) ?_
 rw [Tryz.ntmps101,Tryz.results101]
 unfold boxIn
 cases e1:boxB a with
 |false=>
  rw [e1] at hv
  unfold pbox pboxL at *
  refine wk ?_
  exact retP rfl (by exact lw) (by simp [pbool])
 |true=>
  rw [e1] at hv
  cases e2:boxHas b a.lo with
  |false=>
   rw [e2] at ha
   unfold pbox pboxL at *
   refine wk ?_
   exact retP rfl (by exact lw) (by simp [pbool])
  |true=>
   rw [e2] at ha
   unfold pbox pboxL at *
   cases e3:boxHas b a.hi <;>
   ·rw [e3] at hb
    refine wk ?_
    exact retP rfl (by exact lw) (by simp [pbool])
set_option maxRecDepth 10000 in
set_option maxHeartbeats 1000000 in
theorem pw_boxAlike (a b:PBox) (h1:a.lo.length≤1000000000000) (h2:a.hi.length≤1000000000000) (h3:b.lo.length≤1000000000000) (h4:b.hi.length≤1000000000000):PCalls Tryz.prog 192 [pbox a,pbox b] (· = pbool (boxB a && (boxB b && decide (a.lo.length=b.lo.length)))):=by
 have hv:=pw_boxValid a h1 h2
 have hw:=pw_boxValid b h3 h4
 have hl1:=low_pboxL a
 have hl2:=low_pboxL b
 refine pcalls_of_pw typeTab_ok Tryz.func192 rfl (by kernel_rfl) (by simp [low_pbox]) (by simp [pbox,PV.ownB]) (by rw [Tryz.ntmps192];simp) ?_
 rw [Tryz.ntmps192,Tryz.results192]
 cases e1:boxB a with
 |false=>
  rw [e1] at hv
  unfold pbox pboxL at *
  refine wk ?_
  exact retP rfl (by exact lw) (by simp [pbool])
 |true=>
  rw [e1] at hv
  cases e2:boxB b with
  |false=>
   rw [e2] at hw
   unfold pbox pboxL at *
   refine wk ?_
   exact retP rfl (by exact lw) (by simp [pbool])
  |true=>
   rw [e2] at hw
   unfold pbox pboxL at *
   by_cases e3:a.lo.length=b.lo.length
   ·refine wk ?_
    exact retP rfl (by exact lw) (by simp [pbool,e3])
   ·refine wk ?_
    exact retP rfl (by exact lw) (by simp [pbool,e3])
def zipI (g:Int→Int→Int) (a b:List Int):List Int:=(List.range a.length).map fun k=>g (a.getD k default) (b.getD k default)
theorem zipI_len (g:Int→Int→Int) (a b:List Int):(zipI g a b).length=a.length:=by simp [zipI]
theorem zipI_take {g:Int→Int→Int} {a b:List Int} {k:Nat} (h:k < a.length):(zipI g a b).take (k+1)=(zipI g a b).take k ++ [g (a.getD k default) (b.getD k default)]:=by
 rw [List.take_add_one]
 congr 1
 simp [zipI,h]
theorem low_mapapp (l:List Int) (x:Int):∀c∈l.map pint ++ [pint x],Low c:=by
 intro c hc
 rcases List.mem_append.1 hc with h|h
 ·obtain ⟨z,-,rfl⟩:=List.mem_map.1 h;exact .val _
 ·simp only [List.mem_cons,List.not_mem_nil,or_false] at h
  subst h;exact .val _
set_option maxRecDepth 10000 in
set_option maxHeartbeats 1000000 in
theorem pw_zip (f:Nat) (g:Int→Int→Int) (a b:List Int) (hf:Nat.blt f 1000000=true) (h1:a.length≤1000000) (h2:a.length≤b.length) (hg:∀x y,PCalls Tryz.prog f [pint x,pint y] (· = pint (g x y))):PCalls Tryz.prog 138 [pints a,pints b, .fn f []] (· = pints (zipI g a b)):=by
 have hlow1:Low (.fn f []):=.fn f [] (by simp)
 refine pcalls_of_pw typeTab_ok Tryz.func138 rfl (by kernel_rfl) (by simp [hlow1,low_pints]) (by simp [pints,PV.ownB]) (by rw [Tryz.ntmps138];simp) ?_
 rw [Tryz.ntmps138,Tryz.results138]
 refine wk ?_
 refine PW.loop (fun k:Nat=>((((((bot.put 0 (pints a)).put 1 (pints b)).put 2 (.fn f [])).put 7 (.sl k 1 (((zipI g a b).take k).map pint) (some 3))).put 10 (pint a.length)).put 11 (pint k))) (fun k=>k≤a.length) (fun k=>a.length - k) 0 (by omega) ?_ ?_
 ·exact sb
 ·intro k hk
  by_cases hlt:k < a.length
  ·refine wk ?_
   refine PWops.callV hf (hg _ _) rfl rfl rfl rfl rfl rfl ?_
   have hlen:=zipI_len g a b
   refine wk ?_
   refine loopP (k+1) (by omega) (by omega) ?_
   have hlow:∀own,Low (.sl (k+1) 1 (((zipI g a b).take k).map pint ++ [pint (g (a.getD k default) (b.getD k default))]) own):=fun own=>.sl _ _ _ _ (low_mapapp _ _)
   simp only [zipI_take hlt,List.map_append,List.map_cons,List.map_nil]
   exact sb
  ·refine wk ?_
   refine retP rfl (by exact lw) ?_
   have:k=a.length:=by omega
   subst this
   rw [List.take_of_length_le (by rw [zipI_len];omega)]
   simp [pints,zipI_len]
theorem pw_least (x y:Int):PCalls Tryz.prog 139 [pint x,pint y] (· = pint (min x y)):=by
 refine pcalls_of_pw typeTab_ok Tryz.func139 rfl (by kernel_rfl) (by simp [low_pint]) (by simp [pint,PV.ownB]) (by rw [Tryz.ntmps139];simp) ?_
 rw [Tryz.ntmps139,Tryz.results139]
 refine wk ?_
 refine retP rfl (by exact lw) ?_
 simp only [Bool.false_eq_true,if_false,pint]
 congr 2
 split<;>omega
theorem pw_greatest (x y:Int):PCalls Tryz.prog 140 [pint x,pint y] (· = pint (max x y)):=by
 refine pcalls_of_pw typeTab_ok Tryz.func140 rfl (by kernel_rfl) (by simp [low_pint]) (by simp [pint,PV.ownB]) (by rw [Tryz.ntmps140];simp) ?_
 rw [Tryz.ntmps140,Tryz.results140]
 refine wk ?_
 refine retP rfl (by exact lw) ?_
 simp only [if_true,pint]
 congr 2
 split<;>omega
theorem weak_nobox {c:Int} : Weak (.tup [.agg [.nilsl, .nilsl], .val (.int .i64 c)]) (.tup [.agg [pints [],pints []],pint c]):=
 Weak.tup (.cons (Weak.agg (.cons (Weak.nil 1) (.cons (Weak.nil 1) .nil))) (.cons (Weak.refl _) .nil))
def boxJoin (a b:PBox):PBox×Int:=if boxB a && (boxB b && decide (a.lo.length=b.lo.length)) then (⟨zipI min a.lo b.lo,zipI max a.hi b.hi⟩,0) else (⟨[],[]⟩,1)
set_option maxRecDepth 10000 in
set_option maxHeartbeats 1000000 in
theorem pw_boxJoin (a b:PBox) (h1:a.lo.length≤1000000) (h2:a.hi.length≤1000000) (h3:b.lo.length≤1000000) (h4:b.hi.length≤1000000):PCalls Tryz.prog 109 [pbox a,pbox b] (· = .tup [pbox (boxJoin a b).1,pint (boxJoin a b).2]):=by
 have hv:=pw_boxAlike a b (by omega) (by omega) (by omega) (by omega)
 have hl1:=low_pboxL a
 have hl2:=low_pboxL b
 refine PCalls.weak ?_
 refine pcalls_of_pw typeTab_ok Tryz.func109 rfl (by kernel_rfl) (by simp [low_pbox]) (by simp [pbox,PV.ownB]) (by rw [Tryz.ntmps109];simp) ?_
 rw [Tryz.ntmps109,Tryz.results109]
 unfold boxJoin
 cases e1:(boxB a && (boxB b && decide (a.lo.length=b.lo.length))) with
 |false=>
  rw [e1] at hv
  unfold pbox pboxL at *
  refine wk ?_
  exact retP (r:=.tup [.agg [.nilsl, .nilsl],pint 1]) rfl (by simp [low_tup,low_agg,low_nilsl,low_pint]) weak_nobox
 |true=>
  rw [e1] at hv
  have e2:=e1
  simp only [Bool.and_eq_true,decide_eq_true_eq] at e2
  obtain ⟨q1,q2,q3⟩:=e2
  have hz1:=pw_zip 139 min a.lo b.lo rfl (by omega) (by omega) pw_least
  have hz2:=pw_zip 140 max a.hi b.hi rfl (by omega) (by have:=boxB_len q1;have:=boxB_len q2;omega) pw_greatest
  unfold pbox pboxL at *
  refine wk ?_
  exact retP (r:=.tup [.agg [pints (zipI min a.lo b.lo),pints (zipI max a.hi b.hi)],pint 0]) rfl (by simp [low_tup,low_agg,low_pints,low_pint]) (Weak.refl _)
end Go.Proofs.YtoamkpgaaanafaaGreat

/- box: Of. -/
namespace Go.Proofs.YtoamkpgaaanafaaGreat
set_option linter.unusedSimpArgs false
set_option linter.unusedVariables false
set_option linter.unnecessarySimpa false
open Go.RowKit
def wrongB (l:List (List Int)) (v:List Int):Bool := !vecB v || decide (v.length≠(l.getD 0 default).length)
set_option maxRecDepth 10000 in
theorem pw_wrong (l:List (List Int)) (v:List Int) (hl:0 < l.length) (hv:v.length≤1000000):PCalls Tryz.prog 135 [pints v, .ep [pvecs l] 0] (· = pbool (wrongB l v)):=by
 have h:=pw_isVector v (by omega)
 have hlow:Low (.ep [pvecs l] 0):=by simp [low_ep,low_pvecs]
 refine pcalls_of_pw typeTab_ok Tryz.func135 rfl (by kernel_rfl) (by simp [low_pints,hlow]) (by simp [pints,PV.ownB]) (by rw [Tryz.ntmps135];simp) ?_
 rw [Tryz.ntmps135,Tryz.results135]
 unfold wrongB
 cases e1:vecB v with
 |false=>
  rw [e1] at h
  refine wk ?_
  exact retP rfl (by exact lw) (by simp [pbool])
 |true=>
  rw [e1] at h
  by_cases e2:v.length=(l.getD 0 default).length
  ·refine wk ?_
   exact retP rfl (by exact lw) (by simp only [pbool];simp [e2])
  ·refine wk ?_
   exact retP rfl (by exact lw) (by simp only [pbool,decide_eq_true e2];rfl)
def boxOfL (l:List (List Int)):PBox:=(l.drop 1).foldl (fun b v=>⟨zipI min b.lo v,zipI max b.hi v⟩) ⟨l.getD 0 default,l.getD 0 default⟩
def boxOf (l:List (List Int)):PBox×Int:=if l.length=0∨l.any (wrongB l)=true then (⟨[],[]⟩,1) else (boxOfL l,0)
def boxK (l:List (List Int)) (k:Nat):PBox:=((l.drop 1).take k).foldl (fun b v=>⟨zipI min b.lo v,zipI max b.hi v⟩) ⟨l.getD 0 default,l.getD 0 default⟩
theorem boxK_succ {l:List (List Int)} {k:Nat} (h:k < (l.drop 1).length):boxK l (k+1)=⟨zipI min (boxK l k).lo ((l.drop 1).getD k default),zipI max (boxK l k).hi ((l.drop 1).getD k default)⟩:=by
 unfold boxK
 have e:(l.drop 1).getD k default=(l.drop 1)[k]:=by rw [List.getD_eq_getElem?_getD,List.getElem?_eq_getElem h];rfl
 rw [List.take_add_one,List.getElem?_eq_getElem h,List.foldl_append,e]
 rfl
theorem boxK_len (l:List (List Int)) (k:Nat):(boxK l k).lo.length=(l.getD 0 default).length∧(boxK l k).hi.length=(l.getD 0 default).length:=by
 unfold boxK
 generalize (l.drop 1).take k=r
 have:∀(r:List (List Int)) (b:PBox),(r.foldl (fun b v=>(⟨zipI min b.lo v,zipI max b.hi v⟩:PBox)) b).lo.length=b.lo.length∧(r.foldl (fun b v=>(⟨zipI min b.lo v,zipI max b.hi v⟩:PBox)) b).hi.length=b.hi.length:=by
  intro r
  induction r with
  |nil=>intro b;exact ⟨rfl,rfl⟩
  |cons v r ih=>
   intro b
   obtain ⟨h1,h2⟩:=ih ⟨zipI min b.lo v,zipI max b.hi v⟩
   simp only [List.foldl_cons]
   rw [h1,h2,zipI_len,zipI_len]
   exact ⟨rfl,rfl⟩
 exact this r _
set_option maxRecDepth 10000 in
set_option maxHeartbeats 2000000 in
theorem pw_boxOf (l:List (List Int)) (hl:l.length≤1000000) (hv:∀v∈l,v.length≤1000000):PCalls Tryz.prog 58 [pvecs l] (· = .tup [pbox (boxOf l).1,pint (boxOf l).2]):=by
 refine PCalls.weak ?_
 refine pcalls_of_pw typeTab_ok Tryz.func58 rfl (by kernel_rfl) (by simp [low_pvecs]) (by simp [pvecs,PV.ownB]) (by rw [Tryz.ntmps58];simp) ?_
 rw [Tryz.ntmps58,Tryz.results58]
 refine PW.seq ?_
 refine PW.region typeTab_ok (by kernel_rfl) ?_
 refine wg ?_
 refine PW.freezeP (id:=0) (s:=1) (off:=0) (σ':=(bot.setb 1 [.nilsl, .nilsl]).put 2 (.ptr 1 0)) rfl rfl (fun c hc=>by simp only [List.mem_cons,List.not_mem_nil,or_false] at hc;subst hc;exact (low_pvecs _).2 trivial) (by exact sbr0) rfl ?_
 by_cases h0:l.length=0
 ·refine wk ?_
  refine retP (r:=.tup [.agg [.nilsl, .nilsl],pint 1]) rfl (by simp [low_tup,low_agg,low_nilsl,low_pint]) ?_
  rw [boxOf,if_pos (.inl h0)]
  exact weak_nobox
 ·have hw:=pw_anyV 135 [.ep [pvecs l] 0] (wrongB l) l rfl (by omega) (by simp [low_ep,low_pvecs]) (fun k hk=>pw_wrong l _ (by omega) (hv _ (by rw [List.getD_eq_getElem?_getD,List.getElem?_eq_getElem hk];exact List.getElem_mem hk)))
  cases e1:l.any (wrongB l) with
  |true=>
   rw [e1] at hw
   refine wk ?_
   refine retP (r:=.tup [.agg [.nilsl, .nilsl],pint 1]) rfl (by simp [low_tup,low_agg,low_nilsl,low_pint]) ?_
   rw [boxOf,if_pos (.inr e1)]
   exact weak_nobox
  |false=>
   rw [e1] at hw
   have hc:=pcClone (l.getD 0 default) (by have:=hv (l.getD 0 default) (by rw [List.getD_eq_getElem?_getD,List.getElem?_eq_getElem (by omega)];exact List.getElem_mem _);omega)
   have hlen:∀k,k < (l.drop 1).length→((l.drop 1).getD k default).length=(l.getD 0 default).length:=by
    intro k hk
    rw [List.any_eq_false] at e1
    have h1:=e1 ((l.drop 1).getD k default) (by rw [List.getD_eq_getElem?_getD,List.getElem?_eq_getElem hk];exact List.mem_of_mem_drop (List.getElem_mem hk))
    by_cases h2:((l.drop 1).getD k default).length=(l.getD 0 default).length
    ·exact h2
    ·exact absurd (by simp only [wrongB,decide_eq_true h2,Bool.or_true]) h1
   have h00:(l.getD 0 default).length≤1000000:=hv _ (by rw [List.getD_eq_getElem?_getD,List.getElem?_eq_getElem (by omega)];exact List.getElem_mem _)
   have hdl:(l.drop 1).length≤1000000:=by simp;omega
   have hlow:∀x,Low (pvecs x):=fun x=>(low_pvecs x).2 trivial
   refine wk ?_
   refine PW.loop (fun k:Nat=>(((((((bot.setb 1 [.nilsl, .nilsl]).setb 4009 [pints (boxK l k).lo,pints (boxK l k).hi]).put 2 (.ptr 1 0)).put 5 (.ptr 4009 0)).put 28 (pvecs (l.drop 1))).put 29 (pint (l.drop 1).length)).put 30 (pint k))) (fun k=>k≤(l.drop 1).length) (fun k=>(l.drop 1).length - k) 0 (by omega) ?_ ?_
   ·exact sb
   ·intro k hk
    obtain ⟨q1,q2⟩:=boxK_len l k
    by_cases hlt:k < (l.drop 1).length
    ·have hz1:=pw_zip 139 min (boxK l k).lo ((l.drop 1).getD k default) rfl (by omega) (by rw [hlen k hlt];omega) pw_least
     have hz2:=pw_zip 140 max (boxK l k).hi ((l.drop 1).getD k default) rfl (by omega) (by rw [hlen k hlt];omega) pw_greatest
     clear hw hc hlen e1
     refine wk ?_
     refine loopP (k+1) (by omega) (by omega) ?_
     simp only [boxK_succ hlt]
     exact sb
    ·refine wk ?_
     have hkk:k=(l.drop 1).length:=by omega
     refine retP (r:=.tup [.agg [pints (boxK l k).lo,pints (boxK l k).hi],pint 0]) rfl (by simp [low_tup,low_agg,low_pints,low_pint]) ?_
     rw [boxOf,if_neg (by rintro (h|h);exact h0 h;rw [e1] at h;cases h)]
     have:boxK l k=boxOfL l:=by rw [hkk,boxK,boxOfL,List.take_length]
     rw [this]
     exact Weak.refl _
end Go.Proofs.YtoamkpgaaanafaaGreat

/- box: key, measure, Near. -/
namespace Go.Proofs.YtoamkpgaaanafaaGreat
set_option linter.unusedSimpArgs false
set_option linter.unusedVariables false
set_option linter.unnecessarySimpa false
open Go.RowKit
def mesL (g:Int→Int→Int→Int) (b:PBox) (v:List Int):List (List PV):=(List.range v.length).map fun k => [pint (g (b.lo.getD k default) (b.hi.getD k default) (v.getD k default))]
theorem mesL_len (g:Int→Int→Int→Int) (b:PBox) (v:List Int):(mesL g b v).length=v.length:=by simp [mesL]
theorem mesL_take {g:Int→Int→Int→Int} {b:PBox} {v:List Int} {k:Nat} (h:k < v.length):(mesL g b v).take (k+1)=(mesL g b v).take k ++ [[pint (g (b.lo.getD k default) (b.hi.getD k default) (v.getD k default))]]:=by
 rw [List.take_add_one]
 congr 1
 simp [mesL,h]
set_option maxRecDepth 10000 in
set_option maxHeartbeats 1000000 in
theorem it_measure (f:Nat) (g:Int→Int→Int→Int) (b:PBox) (v:List Int) (hf:Nat.blt f 1000000=true) (h1:v.length≤1000000) (h2:v.length≤b.lo.length) (h3:v.length≤b.hi.length) (h4:b.lo.length≤1000000000000) (h5:b.hi.length≤1000000000000) (hg:∀k,k < v.length→PCalls Tryz.prog f [pint (b.lo.getD k default),pint (b.hi.getD k default),pint (v.getD k default)] (· = pint (g (b.lo.getD k default) (b.hi.getD k default) (v.getD k default)))) :
  ItSpec Tryz.prog 233 [.ep [pints v] 0, .ep [.fn f []] 0, .ep [pints b.lo,pints b.hi] 0] (Part (mesL g b v)) (· = mesL g b v):=by
 have hlow1:Low (.ep [.fn f []] 0):=.ep _ _ (by intro c hc;simp only [List.mem_cons,List.not_mem_nil,or_false] at hc;subst hc;exact .fn f [] (by simp))
 have hlow2:Low (.ep [pints b.lo,pints b.hi] 0):=.ep _ _ (low_pboxL b)
 refine itspec_of_pwj typeTab_ok Tryz.func233 rfl (by kernel_rfl) (by simp [low_ep,low_pints,low_fn]) (by simp [PV.ownB]) (by rw [Tryz.ntmps233];simp) ?_
 intro E Φ0 W l hgiv hy hr
 rw [Tryz.ntmps233,Tryz.results233]
 refine jw0 ?_
 refine PWJ.of_pw ?_
 refine wk ?_
 refine jw0 ?_
 refine PWJ.loop (fun k:Nat=>(((((((bot.put 0 (.val (.func (.yield l) #[] #[]))).put 1 (.ep [pints v] 0)).put 2 (.ep [.fn f []] 0)).put 3 (.ep [pints b.lo,pints b.hi] 0)).put 7 (pints v)).put 8 (pint v.length)).put 9 (pint k))) (fun k=>some ((mesL g b v).take k)) (fun k=>k≤v.length) (fun k=>v.length - k) 0 (by omega) ?_ rfl ?_
 ·exact sb
 ·intro k hk
  by_cases hlt:k < v.length
  ·refine jw0 ?_
   refine PWJ.of_pw ?_
   refine wk ?_
   refine jw0 ?_
   refine PWJ.of_pw ?_
   refine wk ?_
   refine jw0 ?_
   refine PWJ.drawN 14 (x := [pint (g (b.lo.getD k default) (b.hi.getD k default) (v.getD k default))]) (d:=28) typeTab_ok (by kernel_rfl) hgiv hy hr (by kernel_rfl) (by kernel_rfl) (by rfl) (by rfl) ?_
   refine wk ?_
   refine PWops.callV hf (hg k hlt) rfl rfl rfl rfl rfl rfl ?_
   refine wk ?_
   refine ⟨⟨rfl,by decide,⟨_,_,rfl,rfl,rfl,rfl⟩,rfl,by simp [low_pint],⟨k+1,(mesL_take hlt).symm⟩,fun id bs e=>(by cases e),fun id es c e=>(by cases e)⟩,fun b' => ?_⟩
   cases b' with
   |true=>
    refine wk ?_
    refine jw0 ?_
    refine PWJ.of_pw ?_
    refine wk ?_
    refine jw0 ?_
    refine loopJ (k+1) (by omega) (by omega) ?_ ?_
    ·exact sb
    ·simp only [if_true];rw [mesL_take hlt]
   |false=>
    refine wk ?_
    refine jw0 ?_
    exact ⟨⟨_,rfl⟩,fun xs e=>by simp at e⟩
  ·refine jw0 ?_
   refine PWJ.of_pw ?_
   refine wk ?_
   refine jw0 ?_
   exact ⟨⟨_,rfl⟩,fun xs e=>by simp at e;rw [←e];exact List.take_of_length_le (by rw [mesL_len];omega)⟩
def addM (m n d:Int):Int:=if m=1 then n+d else if m=2 then n+d * d else max n d
def keyD (m:Int) (l:List Int):Int:=l.foldl (addM m) 0
def keyB (m:Int):Bool:=decide (1≤m) && decide (m≤3)
end Go.Proofs.YtoamkpgaaanafaaGreat

/- Pure walks: what lies behind a loop with several ways out is walked once. -/
namespace Go.Proofs.YtoamkpgaaanafaaGreat
set_option linter.unusedSimpArgs false
set_option linter.unusedVariables false
set_option linter.unnecessarySimpa false
open Go.RowKit
def MidP {α:Type} (M:Nat) (st:α→PS) (I:α→Prop) (Q:Exit→PS→Prop):Exit→PS→Prop
 | .normal,σ=>∃x,I x∧Sub M σ (st x)
 |e,σ=>Q e σ
section
variable {P:Program} {M:Nat} {Q:Exit→PS→Prop} {σ:PS}
theorem midP {α:Type} {st:α→PS} {I:α→Prop} (x:α) (hi:I x) (hs:Sub M σ (st x)):MidP M st I Q .normal σ:=⟨x,hi,hs⟩
theorem midP_ret {α:Type} {st:α→PS} {I:α→Prop} (h:Q .ret σ):MidP M st I Q .ret σ:=h
theorem PW.cut {α:Type} {c y:Code} (st:α→PS) (I:α→Prop) (h1:PW P M c (MidP M st I Q) σ) (h2:∀x,I x→PW P M y Q (st x)):PW P M (.seq c y) Q σ:=by
 refine PW.seq (PW.conseq h1 fun e σ' h=>?_)
 cases e with
 |normal=>
  obtain ⟨x,hx,hs⟩:=h
  exact PW.sub (h2 x hx) hs
 |_=>exact h
theorem PW.cutT {α:Type} {c y:Code} (st:α→PS) (I:α→Prop) (h1:PW P M c (MidP M st I Q) σ) (h2:∀x,I x→PW P M y Q (st x)):PW P M c (ThenP P M y Q) σ:=by
 refine PW.conseq h1 fun e σ' h=>?_
 cases e with
 |normal=>
  obtain ⟨x,hx,hs⟩:=h
  exact PW.sub (h2 x hx) hs
 |_=>exact h
end
end Go.Proofs.YtoamkpgaaanafaaGreat

/- box: key, measure, Near. -/
namespace Go.Proofs.YtoamkpgaaanafaaGreat
set_option linter.unusedSimpArgs false
set_option linter.unusedVariables false
set_option linter.unnecessarySimpa false
open Go.RowKit
section
variable {P:Program} {T:Tab} {ops:Array Oper} {base:Nat} {ok:Nat→Nat→Bool} {i:Nat} {o:Oper} {rest:List (Nat×Oper)} {K:PS→Prop} {σ:PS}
theorem PWops.callHV {c:Call} {x:Operand} {f:FuncId} {caps args:List PV} {given res:List (Nat×List PV)} {gm rm:List (Nat×PMap)} {r:PV} (hf:Nat.blt f 1000000=true) (hp:HCalls P f args given gm r res rm) (hg:pguard ops σ o=some true) (hop:o.op = .call c) (hcal:c.callee = .value x) (hx:pev σ x = .fn f caps) (hargs:c.args.toList.map (pev σ) ++ caps=args)
  (hA:AllB σ (ok i) given) (hB:AllM σ (ok i) gm) (hn:hnewB σ (ok i) (given.map (·.1)) (gm.map (·.1)) (res.map (·.1)) (rm.map (·.1))=true) (hh:∀j id,ok j id=true) (k:PWops P T ops base ok rest K (σ.app o.dst ⟨r,res,none,rm⟩)):PWops P T ops base ok ((i,o) :: rest) K σ:=by
 refine PWops.callH hg ?_ hp hA hB hn (.inr hh) k
 unfold pcall
 rw [hop]
 simp only [hcal,hx,hf,cond_true,hargs]
end
section
variable {P:Program} {M:Nat} {Q:Exit→PS→Prop} {σ:PS}
theorem midB {α:Type} {id:Nat} {y:Code} {st:α→PS} {I:α→Prop} (h2:∀x,I x→PW P M y Q (st x)):∀e σ,BlockP id (MidP M st I Q) e σ→BlockP id (ThenP P M y Q) e σ:=by
 intro e σ h
 cases e with
 |normal=>
  obtain ⟨x,hx,hs⟩:=h
  exact PW.sub (h2 x hx) hs
 |exit i=>
  simp only [BlockP] at h ⊢
  split at h
  ·rename_i e
   rw [if_pos e]
   obtain ⟨x,hx,hs⟩:=h
   exact PW.sub (h2 x hx) hs
  ·rename_i e
   rw [if_neg e]
   exact h
 |_=>exact h
theorem PW.cutTB {α:Type} {id:Nat} {c z y:Code} (st:α→PS) (I:α→Prop) (h1:PW P M c (ThenP P M z (BlockP id (MidP M st I Q))) σ) (h2:∀x,I x→PW P M y Q (st x)):PW P M c (ThenP P M z (BlockP id (ThenP P M y Q))) σ:=by
 refine PW.conseq h1 fun e σ' h=>?_
 cases e with
 |normal=>exact PW.conseq h (midB h2)
 |exit i=>exact midB (id:=id) h2 (.exit i) σ' h
 |goto i=>exact midB (id:=id) h2 (.goto i) σ' h
 |ret=>exact midB (id:=id) h2 .ret σ' h
 |panic c=>exact midB (id:=id) h2 (.panic c) σ' h
 |outgrown=>exact midB (id:=id) h2 .outgrown σ' h
theorem rq_fn1 {κ:Nat→Nat} {S:Nat→Prop} {f j:Nat} (hj:S j):RenQL κ S [.fn f [.ptr j 0]] [.fn f [.ptr (κ j) 0]]:=RenQL.cons (.inl (ren_fn (RenL.cons (.ptr _ _ hj) RenL.nil))) RenQL.nil
end
theorem sq_bound {d:Int} (h1 : -5000≤d) (h2:d≤5000):0≤d * d∧d * d≤25000000:=by
 have h3:d * d=((d.natAbs * d.natAbs:Nat):Int):=by rw [Int.natCast_mul,Int.natAbs_mul_self']
 have h4:d.natAbs * d.natAbs≤5000 * 5000:=Nat.mul_le_mul (by omega) (by omega)
 rw [h3]
 omega
def Small30 (z:Int):Prop := -1000000000000≤z∧z≤1000000000000
def AddC (m:Int) (f:Nat):Prop:=Nat.blt f 1000000=true∧∀(id:Nat) (n d:Int),Small30 n → -5000≤d→d≤5000→HCalls Tryz.prog f [pint d, .ptr id 0] [(id,[pint n])] [] (.tup []) [(id,[pint (addM m n d)])] []
set_option maxRecDepth 10000 in
theorem hc_key1:AddC 1 257:=by
 refine ⟨rfl,fun id n d hn h1 h2=>?_⟩
 obtain ⟨h3,h4⟩:=hn
 have hdd:=sq_bound h1 h2
 have h:HCalls Tryz.prog 257 [pint d, .ptr 1000001 0] [(1000001,[pint n])] [] (.tup []) [(1000001,[pint (addM 1 n d)])] []:=by
  refine hcalls_of_pw typeTab_ok Tryz.func257 rfl (by kernel_rfl) (by simp [pint,PV.ownB]) (by rw [Tryz.ntmps257];simp) (by simp [ResIds]) (by simp [ResIds]) (by exact hok0) ?_
  rw [Tryz.ntmps257,Tryz.results257]
  refine wk ?_
  exact RetH.mk rfl (Weak.refl _) ⟨⟨_,rfl,WeakL.eq (by simp [addM,pint])⟩,trivial⟩ trivial
 exact h.at [(1000001,id)] (by simp) (by simp [ResIds]) (by simp) (by simp) (by exact ren0) (by exact ren0) (by exact ren0) (Ren.low _ (.tup _ (by simp))) (by exact ren0) (by exact ren0)
set_option maxRecDepth 10000 in
theorem hc_key2:AddC 2 258:=by
 refine ⟨rfl,fun id n d hn h1 h2=>?_⟩
 obtain ⟨h3,h4⟩:=hn
 have hdd:=sq_bound h1 h2
 have h:HCalls Tryz.prog 258 [pint d, .ptr 1000001 0] [(1000001,[pint n])] [] (.tup []) [(1000001,[pint (addM 2 n d)])] []:=by
  refine hcalls_of_pw typeTab_ok Tryz.func258 rfl (by kernel_rfl) (by simp [pint,PV.ownB]) (by rw [Tryz.ntmps258];simp) (by simp [ResIds]) (by simp [ResIds]) (by exact hok0) ?_
  rw [Tryz.ntmps258,Tryz.results258]
  refine wk ?_
  exact RetH.mk rfl (Weak.refl _) ⟨⟨_,rfl,WeakL.eq (by simp [addM,pint])⟩,trivial⟩ trivial
 exact h.at [(1000001,id)] (by simp) (by simp [ResIds]) (by simp) (by simp) (by exact ren0) (by exact ren0) (by exact ren0) (Ren.low _ (.tup _ (by simp))) (by exact ren0) (by exact ren0)
set_option maxRecDepth 10000 in
theorem hc_key3:AddC 3 259:=by
 refine ⟨rfl,fun id n d hn h1 h2=>?_⟩
 obtain ⟨h3,h4⟩:=hn
 have hdd:=sq_bound h1 h2
 have h:HCalls Tryz.prog 259 [pint d, .ptr 1000001 0] [(1000001,[pint n])] [] (.tup []) [(1000001,[pint (addM 3 n d)])] []:=by
  refine hcalls_of_pw typeTab_ok Tryz.func259 rfl (by kernel_rfl) (by simp [pint,PV.ownB]) (by rw [Tryz.ntmps259];simp) (by simp [ResIds]) (by simp [ResIds]) (by exact hok0) ?_
  rw [Tryz.ntmps259,Tryz.results259]
  refine wk ?_
  exact RetH.mk rfl (Weak.refl _) ⟨⟨_,rfl,WeakL.eq (by simp [addM,pint];split<;>omega)⟩,trivial⟩ trivial
 exact h.at [(1000001,id)] (by simp) (by simp [ResIds]) (by simp) (by simp) (by exact ren0) (by exact ren0) (by exact ren0) (Ren.low _ (.tup _ (by simp))) (by exact ren0) (by exact ren0)
def unP:List PV→Int
 | [.val (.int _ z)]=>z
 |_=>0
def keyP (m:Int) (pre:List (List PV)):Int:=keyD m (pre.map unP)
theorem keyP_snoc (m:Int) (pre:List (List PV)) (d:Int):keyP m (pre ++ [[pint d]])=addM m (keyP m pre) d:=by
 simp [keyP,keyD,unP,pint]
theorem addM_bound {m n d:Int} {k:Nat} (h : -25000000 * k≤n∧n≤25000000 * k) (h1 : -5000≤d) (h2:d≤5000) : -25000000 * ((k+1:Nat):Int)≤addM m n d∧addM m n d≤25000000 * ((k+1:Nat):Int):=by
 have:=sq_bound h1 h2
 unfold addM
 split
 ·omega
 ·split
  ·omega
  ·omega
theorem keyD_bound (m:Int):∀(ds:List Int),(∀d∈ds,-5000≤d∧d≤5000)→∀(n:Int) (k:Nat),-25000000 * k≤n∧n≤25000000 * k → -25000000 * ((k+ds.length:Nat):Int)≤ds.foldl (addM m) n∧ds.foldl (addM m) n≤25000000 * ((k+ds.length:Nat):Int)
 | [],_,n,k,h=>by simpa using h
 |d :: ds,hd,n,k,h=>by
  have h1:=hd d List.mem_cons_self
  have:=keyD_bound m ds (fun x hx=>hd x (List.mem_cons_of_mem _ hx)) (addM m n d) (k+1) (addM_bound h h1.1 h1.2)
  simp only [List.foldl_cons,List.length_cons]
  rw [show k+(ds.length+1)=k+1+ds.length by omega]
  exact this
theorem keyP_small {m:Int} {ds:List Int} (hd:∀d∈ds,-5000≤d∧d≤5000) (hl:ds.length≤1000):Small30 (keyP m (ds.map fun d => [pint d])):=by
 have h1:(ds.map fun d => [pint d]).map unP=ds:=by
  rw [List.map_map]
  have:(unP ∘ fun d => [pint d])=id:=by funext d;rfl
  rw [this,List.map_id]
 have:=keyD_bound m ds hd 0 0 (by simp)
 unfold Small30 keyP keyD
 rw [h1]
 omega
theorem part_ds {ds:List Int} {pre:List (List PV)} {x:List PV} (h:Part (ds.map fun d => [pint d]) (pre ++ [x])):∃k,k < ds.length∧x = [pint (ds.getD k default)]∧pre=(ds.take k).map fun d => [pint d]:=by
 obtain ⟨k,hk⟩:=h
 have hl:pre.length+1=min k ds.length:=by
  have:=congrArg List.length hk
  simpa using this
 have hj:pre.length < ds.length:=by omega
 refine ⟨pre.length,hj,?_,?_⟩
 ·have h1:(pre ++ [x])[pre.length]? = some x:=by simp
  rw [hk,List.getElem?_take,if_pos (by omega),List.getElem?_map,List.getElem?_eq_getElem hj] at h1
  simp only [Option.map_some,Option.some.injEq] at h1
  rw [←h1,List.getD_eq_getElem?_getD,List.getElem?_eq_getElem hj];rfl
 ·have h1:pre=(pre ++ [x]).take pre.length:=by simp
  rw [hk,List.take_take,show min pre.length k=pre.length by omega,←List.map_take] at h1
  exact h1
set_option maxRecDepth 10000 in
set_option maxHeartbeats 2000000 in
theorem pw_key (m:Int) (f:Nat) (caps:List PV) (ds:List Int) (hf:Nat.blt f 1000000=true) (hlow:∀c∈caps,Low c) (hit:ItSpec Tryz.prog f caps (Part (ds.map fun d => [pint d])) (· = ds.map fun d => [pint d])) (hd:∀d∈ds,-5000≤d∧d≤5000) (hl:ds.length≤1000) :
  PCalls Tryz.prog 232 [pint m, .fn f caps] (· = if keyB m then .tup [pint (keyD m ds),pbool true] else .tup [pint 0,pbool false]):=by
 have hlow1:Low (.fn f caps):=.fn f caps hlow
 refine pcalls_of_pw typeTab_ok Tryz.func232 rfl (by kernel_rfl) (by simp [low_pint,hlow1]) (by simp [pint,PV.ownB]) (by rw [Tryz.ntmps232];simp) ?_
 rw [Tryz.ntmps232,Tryz.results232]
 refine PW.seq ?_
 refine PW.region typeTab_ok (by kernel_rfl) ?_
 refine wg ?_
 refine PW.region typeTab_ok (by kernel_rfl) ?_
 refine wg ?_
 refine PW.region typeTab_ok (by kernel_rfl) ?_
 refine wg ?_
 refine PW.region typeTab_ok (by kernel_rfl) ?_
 refine wg ?_
 refine PW.cutTB (fun fc:Nat=>(((((bot.setb 1000 [pint 0]).setb 2001 [.fn fc [.ptr 1000 0]]).put 1 (.fn f caps)).put 6 (.ptr 1000 0)).put 7 (.ptr 2001 0))) (fun fc=>AddC m fc∧keyB m=true) ?_ ?_
 ·by_cases m1:m=1
  ·subst m1
   refine wk ?_
   exact midP 257 ⟨hc_key1,rfl⟩ (by exact sbF)
  ·by_cases m2:m=2
   ·subst m2
    refine wk ?_
    exact midP 258 ⟨hc_key2,rfl⟩ (by exact sbF)
   ·by_cases m3:m=3
    ·subst m3
     refine wk ?_
     exact midP 259 ⟨hc_key3,rfl⟩ (by exact sbF)
    ·refine wk ?_
     refine midP_ret (retP (r:=.tup [pint 0,pbool false]) rfl (by simp [low_tup,low_pint,low_pbool]) ?_)
     rw [if_neg (by simp only [keyB,Bool.and_eq_true,decide_eq_true_eq];omega)]
 ·rintro fc ⟨⟨hfc,hA⟩,hm⟩
  refine wk ?_
  refine PW.rangeFunc (A:=Part (ds.map fun d => [pint d])) (S:=(· = ds.map fun d => [pint d])) 3000000 [3002001,3001000] (fun pre=>((((bot.setb 3001000 [pint (keyP m pre)]).setb 3002001 [.fn fc [.ptr 3001000 0]]).put 6 (.ptr 3001000 0)).put 7 (.ptr 3002001 0))) (fun _=>True) trivial rfl hf hlow hit (by exact sbrF) (fun pre=>by exact kn0) (by intro pre i hi;simp only [List.mem_cons,List.not_mem_nil,or_false] at hi;rcases hi with rfl|rfl|rfl|rfl|rfl<;>rfl) rfl (by decide) (fun pre=>by exact ow0) (by simp) ?_ ?_ ?_
  ·intro pre x hx
   obtain ⟨k,-,rfl,-⟩:=part_ds hx
   refine ⟨rfl,fun p hp=>?_⟩
   simp only [List.mem_cons,List.not_mem_nil,or_false] at hp
   subst hp
   exact ⟨.val _,rfl⟩
  ·intro pre x hI hx
   obtain ⟨k,hk,rfl,hpre⟩:=part_ds hx
   simp only [putps]
   refine wk ?_
   refine normP ?_
   have hdk:=hd (ds.getD k default) (by rw [List.getD_eq_getElem?_getD,List.getElem?_eq_getElem hk];exact List.getElem_mem hk)
   have hsm:Small30 (keyP m pre):=by
    rw [hpre]
    exact keyP_small (fun d h=>hd d (List.mem_of_mem_take h)) (by simp;omega)
   have hc:=hA 3001000 (keyP m pre) (ds.getD k default) hsm hdk.1 hdk.2
   refine wk ?_
   refine PWops.callHV hfc hc rfl rfl rfl rfl rfl ⟨⟨rfl,rfl⟩,trivial⟩ trivial rfl (fun _ _=>rfl) ?_
   refine wk ?_
   refine roundP trivial ?_ (by exact lt0)
   rw [keyP_snoc]
   exact sbF
  ·intro xs hxs hI
   subst hxs
   refine ⟨((bot.setb 1000 [pint (keyD m ds)]).put 6 (.ptr 1000 0)),?_,?_⟩
   ·have:keyP m (ds.map fun d => [pint d])=keyD m ds:=by
     unfold keyP
     rw [List.map_map]
     have:(unP ∘ fun d => [pint d])=id:=by funext d;rfl
     rw [this,List.map_id]
    rw [this]
    exact sbrF
   ·refine wk ?_
    refine retP (r:=.tup [pint (keyD m ds),pbool true]) rfl (by simp [low_tup,low_pint,low_pbool]) ?_
    rw [if_pos hm]
end Go.Proofs.YtoamkpgaaanafaaGreat

/- box: measure, Near. -/
namespace Go.Proofs.YtoamkpgaaanafaaGreat
set_option linter.unusedSimpArgs false
set_option linter.unusedVariables false
set_option linter.unnecessarySimpa false
open Go.RowKit
def gapD (lo hi x:Int):Int:=max (max 0 (lo - x)) (x - hi)
set_option maxRecDepth 10000 in
theorem pw_near1 (lo hi x:Int) (h1 : -1000000≤lo∧lo≤1000000) (h2 : -1000000≤hi∧hi≤1000000) (h3 : -1000000≤x∧x≤1000000):PCalls Tryz.prog 151 [pint lo,pint hi,pint x] (· = pint (gapD lo hi x)):=by
 refine pcalls_of_pw typeTab_ok Tryz.func151 rfl (by kernel_rfl) (by simp [low_pint]) (by simp [pint,PV.ownB]) (by rw [Tryz.ntmps151];simp) ?_
 rw [Tryz.ntmps151,Tryz.results151]
 obtain ⟨a1,a2⟩:=h1
 obtain ⟨b1,b2⟩:=h2
 obtain ⟨c1,c2⟩:=h3
 refine wk ?_
 refine retP rfl (by exact lw) ?_
 simp only [if_true,pint,gapD]
 congr 2
 repeat' split
 all_goals omega
def dsOf (g:Int→Int→Int→Int) (b:PBox) (v:List Int):List Int:=(List.range v.length).map fun k=>g (b.lo.getD k default) (b.hi.getD k default) (v.getD k default)
theorem mesL_ds (g:Int→Int→Int→Int) (b:PBox) (v:List Int):mesL g b v=(dsOf g b v).map fun d => [pint d]:=by simp [mesL,dsOf]
theorem vecB_get {v:List Int} (h:vecB v=true):(1≤v.length∧v.length≤32)∧∀k,-1000≤v.getD k default∧v.getD k default≤1000:=by
 simp only [vecB,Bool.and_eq_true,decide_eq_true_eq,Bool.not_eq_true',List.any_eq_false] at h
 refine ⟨⟨h.1,h.2.1⟩,fun k=>?_⟩
 rw [List.getD_eq_getElem?_getD]
 rcases Nat.lt_or_ge k v.length with hk|hk
 ·rw [List.getElem?_eq_getElem hk]
  have:=h.2.2 v[k] (List.getElem_mem hk)
  simp [farB] at this
  simpa using this
 ·rw [List.getElem?_eq_none hk];decide
theorem boxB_vec {b:PBox} (h:boxB b=true):vecB b.lo=true∧vecB b.hi=true:=by
 simp only [boxB,Bool.and_eq_true] at h
 exact ⟨h.1,h.2.1⟩
def boxNear (m:Int) (b:PBox) (v:List Int):Int×Int:=if boxB b && (vecB v && (decide (v.length=b.lo.length) && keyB m)) then (keyD m (dsOf gapD b v),0) else (0,1)
set_option maxRecDepth 10000 in
set_option maxHeartbeats 2000000 in
theorem pw_measure (m:Int) (b:PBox) (v:List Int) (h1:b.lo.length≤1000000) (h2:b.hi.length≤1000000) (h3:v.length≤1000000):PCalls Tryz.prog 150 [pint m,pbox b,pints v, .fn 151 []] (· = .tup [pint (boxNear m b v).1,pint (boxNear m b v).2]):=by
 have hv:=pw_boxValid b (by omega) (by omega)
 have hw:=pw_isVector v (by omega)
 have hl1:=low_pboxL b
 refine pcalls_of_pw typeTab_ok Tryz.func150 rfl (by kernel_rfl) (by simp [low_pint,low_pbox,low_pints,low_fn]) (by simp [pint,pbox,pints,PV.ownB]) (by rw [Tryz.ntmps150];simp) ?_
 rw [Tryz.ntmps150,Tryz.results150]
 unfold boxNear
 unfold pbox pboxL at *
 refine PW.seq ?_
 refine PW.region typeTab_ok (by kernel_rfl) ?_
 refine wg ?_
 refine PW.freezeP (id:=0) (s:=5) (off:=0) (σ':=((((bot.setb 1 [pints v]).setb 2 [.fn 151 []]).put 0 (pint m)).put 6 (.ptr 1 0)).put 7 (.ptr 2 0)) rfl rfl hl1 ?_ rfl ?_
 ·exact sbr0
 refine PW.freezeP (id:=1) (s:=6) (off:=0) (σ':=(((bot.setb 2 [.fn 151 []]).put 0 (pint m)).put 5 (.ep [pints b.lo,pints b.hi] 0)).put 7 (.ptr 2 0)) rfl rfl (fun c hc=>by simp only [List.mem_cons,List.not_mem_nil,or_false] at hc;subst hc;exact (low_pints _).2 trivial) ?_ rfl ?_
 ·exact sbr0
 refine PW.freezeP (id:=2) (s:=7) (off:=0) (σ':=((bot.put 0 (pint m)).put 5 (.ep [pints b.lo,pints b.hi] 0)).put 6 (.ep [pints v] 0)) rfl rfl (fun c hc=>by simp only [List.mem_cons,List.not_mem_nil,or_false] at hc;subst hc;exact .fn _ _ (by simp)) ?_ rfl ?_
 ·exact sbr0
 cases e1:boxB b with
 |false=>
  rw [e1] at hv
  refine wk ?_
  exact retP (r:=.tup [pint 0,pint 1]) rfl (by simp [low_tup,low_pint]) rfl
 |true=>
  rw [e1] at hv
  cases e2:vecB v with
  |false=>
   rw [e2] at hw
   refine wk ?_
   exact retP (r:=.tup [pint 0,pint 1]) rfl (by simp [low_tup,low_pint]) rfl
  |true=>
   rw [e2] at hw
   by_cases e3:v.length=b.lo.length
   ·obtain ⟨q1,q2,q3⟩:=boxB_len e1
    obtain ⟨r1,r2⟩:=boxB_vec e1
    obtain ⟨-,g1⟩:=vecB_get r1
    obtain ⟨-,g2⟩:=vecB_get r2
    obtain ⟨-,g3⟩:=vecB_get e2
    have hit:=it_measure 151 gapD b v rfl (by omega) (by omega) (by omega) (by omega) (by omega) (fun k _=>pw_near1 _ _ _ (by have:=g1 k;omega) (by have:=g2 k;omega) (by have:=g3 k;omega))
    rw [mesL_ds] at hit
    have hk:=pw_key m 233 [.ep [pints v] 0, .ep [.fn 151 []] 0, .ep [pints b.lo,pints b.hi] 0] (dsOf gapD b v) rfl (by simp [low_ep,low_pints,low_fn]) hit (fun d hd=>by
     obtain ⟨k,-,rfl⟩:=List.mem_map.1 hd
     have:=g1 k;have:=g2 k;have:=g3 k
     unfold gapD;omega) (by simp [dsOf];omega)
    cases e4:keyB m with
    |false=>
     rw [e4] at hk
     simp only [Bool.false_eq_true,if_false] at hk
     refine wk ?_
     exact retP (r:=.tup [pint 0,pint 1]) rfl (by simp [low_tup,low_pint]) (by simp)
    |true=>
     rw [e4] at hk
     simp only [if_true] at hk
     refine wk ?_
     exact retP (r:=.tup [pint (keyD m (dsOf gapD b v)),pint 0]) rfl (by simp [low_tup,low_pint]) (by simp [e3])
   ·refine wk ?_
    exact retP (r:=.tup [pint 0,pint 1]) rfl (by simp [low_tup,low_pint]) (by simp [e3])
set_option maxRecDepth 10000 in
theorem pw_boxNear (m:Int) (b:PBox) (v:List Int) (h1:b.lo.length≤1000000) (h2:b.hi.length≤1000000) (h3:v.length≤1000000):PCalls Tryz.prog 76 [pint m,pbox b,pints v] (· = .tup [pint (boxNear m b v).1,pint (boxNear m b v).2]):=by
 have h:=pw_measure m b v h1 h2 h3
 have hl1:=low_pboxL b
 refine pcalls_of_pw typeTab_ok Tryz.func76 rfl (by kernel_rfl) (by simp [low_pint,low_pbox,low_pints]) (by simp [pint,pbox,pints,PV.ownB]) (by rw [Tryz.ntmps76];simp) ?_
 rw [Tryz.ntmps76,Tryz.results76]
 generalize boxNear m b v=r at *
 unfold pbox pboxL at *
 refine wk ?_
 exact retP (r:=.tup [pint r.1,pint r.2]) rfl (by simp [low_tup,low_pint]) rfl
end Go.Proofs.YtoamkpgaaanafaaGreat

/- Pure walks: map literals. -/
namespace Go.Proofs.YtoamkpgaaanafaaGreat
set_option linter.unusedSimpArgs false
set_option linter.unusedVariables false
set_option linter.unnecessarySimpa false
open Go.RowKit
section
variable {P:Program} {T:Tab} {σ:PS} {o:Oper} {i base:Nat} {ops:Array Oper} {ok:Nat→Nat→Bool} {rest:List (Nat×Oper)} {K:PS→Prop}
theorem PWops.mkMG {d:Nat} {t:TypeId} (hg:pguard ops σ o=some true) (hd:o.dst=some d) (hop:o.op = .makeMap t none) (hb:σ.freeB (base+i)=true)
  (kn:PWops P T ops base ok rest K ((σ.setm (base+i) (.map [] 0)).put d (.mref (base+i)))):PWops P T ops base ok ((i,o) :: rest) K σ:=by
 refine PWops.stepM hg (E:=⟨.mref (base+i),[],none,[(base+i, .map [] 0)]⟩) ?_ hb (by rw [hd];exact kn)
 have h1:(σ.only (ok i)).b (base+i)=none∧(σ.only (ok i)).m (base+i)=none:=by
  obtain ⟨q1,q2⟩:=PS.freeB_spec hb
  simp only [PS.only,q1,q2]
  constructor<;>split<;>rfl
 simp only [hop,presM,h1.1,h1.2]
theorem PWops.mins {mid clock kt et:Nat} {x k v:Operand} {t:TypeId} {es:List (Nat×PV×PV)} {kv:Value} {ti ki:TyI} {X:PMap} {p:PV} (hg:pguard ops σ o=some true) (hd:o.dst=none) (hop:o.op = .insert t x k v) (hx:pev σ x = .mref mid) (hm:(σ.only (ok i)).m mid=some (.map es clock)) (hkv:pev σ k = .val kv) (ht:T.at t=some ti) (hk:ti.kind = .map kt et) (hki:T.at kt=some ki) (hb:σ.freeB (base+i)=true)
  (hn:(ownPV σ v).ownB=false) (hv:pev σ v=p) (hput:Go.Proofs.YtoamkpgaaanafaaGreat.mput ki es clock kv p=some X) (kn:PWops P T ops base ok rest K (σ.setm mid X)):PWops P T ops base ok ((i,o) :: rest) K σ:=by
 refine PWops.stepM hg (E:=⟨.tup [],[],none,[(mid,X)]⟩) ?_ hb ?_
 ·have hn' : (ownPV (σ.only (ok i)) v).ownB=false:=by cases v<;>exact hn
  simp only [hop,presM,pput,ht,hk,hki,pev_only,hx,mapOf,hm,hkv,ownArg,hn',Bool.false_eq_true,if_false,hv,hput,Option.map_some]
 ·rw [hd];exact kn
end
end Go.Proofs.YtoamkpgaaanafaaGreat

/- vector: Sub, Norm, Key. -/
namespace Go.Proofs.YtoamkpgaaanafaaGreat
set_option linter.unusedSimpArgs false
set_option linter.unusedVariables false
set_option linter.unnecessarySimpa false
open Go.RowKit
set_option maxRecDepth 10000 in
theorem hc_clone1 (l:List Int) (h0:0 < l.length) (hl:l.length≤1000000):HCalls Tryz.prog 137 [pints l] [] [] (.msl 3002 0 l.length 1) [(3002,l.map pint)] []:=by
 refine hcalls_of_pw typeTab_ok Tryz.func137 rfl (by kernel_rfl) (by simp [pints,PV.ownB]) (by rw [Tryz.ntmps137];simp) (by simp [ResIds]) (by simp [ResIds]) ⟨fun p hp=>by simp only [List.mem_cons,List.not_mem_nil,or_false] at hp;subst hp;exact ((low_pints l).2 trivial).lowI,by simp,by simp, .msl _ _ _ _ (by simp [ResIds]),fun x hx c hc=>by simp only [List.mem_cons,List.not_mem_nil,or_false] at hx;subst hx;obtain ⟨z,-,rfl⟩:=List.mem_map.1 hc;exact .val _,by simp,by simp,by simp⟩ ?_
 rw [Tryz.ntmps137,Tryz.results137]
 cases l with
 |nil=>cases h0
 |cons x l=>
  have hone:((x :: l).map pint).all PV.one=true:=one_map (fun _=>rfl) _
  have hno:((x :: l).map pint).all (fun c => !c.ownB)=true:=by rw [List.all_map,List.all_eq_true];intro z _;rfl
  refine PW.seq ?_
  refine PW.region typeTab_ok (by kernel_rfl) ?_
  refine wg ?_
  refine PW.region typeTab_ok (by kernel_rfl) ?_
  refine wg ?_
  refine PW.region typeTab_ok (by kernel_rfl) ?_
  (refine ops0 ?_)
  (refine ops0 ?_)
  refine PWops.appN typeTab_ok rfl (fun _ _=>rfl) rfl rfl (.inr rfl) rfl rfl rfl rfl rfl (by omega) (by omega) h0 hone hno ?_
  refine wk ?_
  exact RetH.mk rfl (Weak.refl _) ⟨⟨_,rfl,WeakL.refl _⟩,trivial⟩ trivial
theorem hc_clone (id:Nat) (l:List Int) (h0:0 < l.length) (hl:l.length≤1000000):HCalls Tryz.prog 137 [pints l] [] [] (.msl id 0 l.length 1) [(id,l.map pint)] []:=
 (hc_clone1 l h0 hl).at [(3002,id)] (by simp) (by simp [ResIds]) (by simp) (by simp) (RenL.low (by simp [low_pints])) RenB.nil RenMs.nil (.msl _ _ _ _ (by simp [ResIds])) (RenB.cons _ _ _ _ _ (RenL.low (low_map (fun _=>Low.val _) _)) RenB.nil) RenMs.nil
def subI (x y:Int):Int:=x - y
def subK (a b:List Int) (k:Nat):List Int:=(zipI subI a b).take k ++ a.drop k
theorem subK_len {a b:List Int} {k:Nat} (h:k≤a.length):(subK a b k).length=a.length:=by
 simp [subK,zipI_len];omega
theorem subK_get {a b:List Int} {k:Nat} (h:k < a.length):(subK a b k).getD k default=a.getD k default:=by
 have hl:((zipI subI a b).take k).length=k:=by rw [List.length_take,zipI_len];omega
 rw [subK,List.getD_eq_getElem?_getD,List.getElem?_append_right (by omega),hl,Nat.sub_self,List.getElem?_drop,List.getD_eq_getElem?_getD,Nat.add_zero]
theorem subK_set {a b:List Int} {k:Nat} (h:k < a.length):(subK a b k).set k (a.getD k default - b.getD k default)=subK a b (k+1):=by
 have hl:((zipI subI a b).take k).length=k:=by rw [List.length_take,zipI_len];omega
 rw [subK,List.set_append_right _ _ (by omega),hl,Nat.sub_self,List.drop_eq_getElem_cons h,List.set_cons_zero,subK,zipI_take h]
 simp [subI]
set_option maxRecDepth 10000 in
set_option maxHeartbeats 2000000 in
theorem pw_vecSub (a b:List Int) (h0:0 < a.length) (h1:a.length≤1000000) (h2:a.length≤b.length) (h3:b.length≤1000000) (ha:∀k,-1000000≤a.getD k default∧a.getD k default≤1000000) (hb:∀k,-1000000≤b.getD k default∧b.getD k default≤1000000):PCalls Tryz.prog 107 [pints a,pints b] (· = pints (zipI subI a b)):=by
 have hc:=hc_clone 900001 a h0 h1
 refine pcalls_of_pw typeTab_ok Tryz.func107 rfl (by kernel_rfl) (by simp [low_pints]) (by simp [pints,PV.ownB]) (by rw [Tryz.ntmps107];simp) ?_
 rw [Tryz.ntmps107,Tryz.results107]
 refine wk ?_
 refine PW.loop (fun k:Nat=>(((((bot.setb 900001 ((subK a b k).map pint)).put 1 (pints b)).put 5 (.msl 900001 0 a.length 1)).put 10 (pint a.length)).put 11 (pint k))) (fun k=>k≤a.length) (fun k=>a.length - k) 0 (by omega) ?_ ?_
 ·exact sb
 ·intro k hk
  have hlen:=subK_len (b:=b) hk
  have hml:((subK a b k).map pint).length=a.length:=by rw [List.length_map,hlen]
  by_cases hlt:k < a.length
  ·have hgk:=subK_get (b:=b) hlt
   obtain ⟨a1,a2⟩:=ha k
   obtain ⟨b1,b2⟩:=hb k
   refine wk ?_
   rw [show (0+((k:Int)).toNat * 1)=k from by omega,hgk]
   refine wk ?_
   rw [show (0+((k:Int)).toNat * 1)=k from by omega,subK_set hlt]
   refine loopP (k+1) (by omega) (by omega) ?_
   have hml2:((subK a b (k+1)).map pint).length=a.length:=by rw [List.length_map,subK_len (by omega)]
   exact sb
  ·have hkk:k=a.length:=by omega
   refine PW.freeze (s:=5) (id:=900001) (n:=a.length) (k:=1) (cs:=(subK a b k).map pint) (σ':=(bot.put 10 (pint a.length)).put 11 (pint k)) rfl rfl (by simp [hlen]) (low_map (fun _=>Low.val _) _) (by exact sbr0) rfl ?_
   refine wk ?_
   refine retP (r:=.sl a.length 1 ((subK a b k).map pint) none) rfl (.sl _ _ _ _ (low_map (fun _=>Low.val _) _)) ?_
   rw [hkk,subK,List.take_of_length_le (by rw [zipI_len];omega),List.drop_length,List.append_nil,pints,zipI_len]
def absI (x:Int):Int:=max x (-x)
theorem absI_sq (x:Int):absI x * absI x=x * x:=by
 unfold absI
 rcases Int.le_total x (-x) with h|h
 ·rw [Int.max_eq_right h,Int.neg_mul_neg]
 ·rw [Int.max_eq_left h]
set_option maxRecDepth 10000 in
theorem pw_norm1 (n x:Int) (hn:Small30 n) (h1 : -5000≤x) (h2:x≤5000):PCalls Tryz.prog 187 [pint n,pint x] (· = pint (addM 1 n (absI x))):=by
 obtain ⟨h3,h4⟩:=hn
 have hdd:=sq_bound h1 h2
 have hw:IntKind.i64.wrap (0 - x) = -x:=by rw [wrap64_id (by omega) (by omega)];omega
 refine pcalls_of_pw typeTab_ok Tryz.func187 rfl (by kernel_rfl) (by simp [low_pint]) (by simp [pint,PV.ownB]) (by rw [Tryz.ntmps187];simp) ?_
 rw [Tryz.ntmps187,Tryz.results187]
 refine wk ?_
 rw [hw]
 rw [show (if true=true then if -x > x then -x else x else if -x < x then -x else x)=absI x from by simp only [if_true,absI];split<;>omega]
 have hab : -5000≤absI x∧absI x≤5000:=by unfold absI;omega
 refine wk ?_
 exact retP rfl (by exact lw) (by simp [addM,pint])
set_option maxRecDepth 10000 in
theorem pw_norm2 (n x:Int) (hn:Small30 n) (h1 : -5000≤x) (h2:x≤5000):PCalls Tryz.prog 188 [pint n,pint x] (· = pint (addM 2 n (absI x))):=by
 obtain ⟨h3,h4⟩:=hn
 have hdd:=sq_bound h1 h2
 have hw:IntKind.i64.wrap (0 - x) = -x:=by rw [wrap64_id (by omega) (by omega)];omega
 refine pcalls_of_pw typeTab_ok Tryz.func188 rfl (by kernel_rfl) (by simp [low_pint]) (by simp [pint,PV.ownB]) (by rw [Tryz.ntmps188];simp) ?_
 rw [Tryz.ntmps188,Tryz.results188]
 refine wk ?_
 exact retP rfl (by exact lw) (by simp [addM,pint,absI_sq])
set_option maxRecDepth 10000 in
theorem pw_norm3 (n x:Int) (hn:Small30 n) (h1 : -5000≤x) (h2:x≤5000):PCalls Tryz.prog 189 [pint n,pint x] (· = pint (addM 3 n (absI x))):=by
 obtain ⟨h3,h4⟩:=hn
 have hdd:=sq_bound h1 h2
 have hw:IntKind.i64.wrap (0 - x) = -x:=by rw [wrap64_id (by omega) (by omega)];omega
 refine pcalls_of_pw typeTab_ok Tryz.func189 rfl (by kernel_rfl) (by simp [low_pint]) (by simp [pint,PV.ownB]) (by rw [Tryz.ntmps189];simp) ?_
 rw [Tryz.ntmps189,Tryz.results189]
 refine wk ?_
 rw [hw]
 refine retP rfl (by exact lw) ?_
 simp only [if_true,pint,addM,absI]
 congr 2
 repeat' split
 all_goals omega
theorem absI_bound {x:Int} (h : -5000≤x∧x≤5000) : -5000≤absI x∧absI x≤5000:=by unfold absI;omega
def normI (m:Int) (v:List Int):Int:=keyD m (v.map absI)
theorem normI_eq (m:Int) (v:List Int):v.foldl (fun n x=>addM m n (absI x)) 0=normI m v:=by rw [normI,keyD,List.foldl_map]
theorem norm_small {m:Int} {v:List Int} (hd:∀d∈v,-5000≤d∧d≤5000) (hl:v.length≤1000):Small30 (v.foldl (fun n x=>addM m n (absI x)) 0):=by
 rw [normI_eq]
 have:=keyD_bound m (v.map absI) (fun d h=>by obtain ⟨x,hx,rfl⟩:=List.mem_map.1 h;exact absI_bound (hd x hx)) 0 0 (by simp)
 unfold Small30 normI keyD
 simp only [List.length_map] at this
 omega
set_option maxRecDepth 10000 in
set_option maxHeartbeats 2000000 in
theorem pw_norm (m:Int) (v:List Int) (hm:keyB m=true) (hl:v.length≤1000) (hv:∀k,-5000≤v.getD k default∧v.getD k default≤5000):PCalls Tryz.prog 106 [pint m,pints v] (· = pint (normI m v)):=by
 have hv' : ∀d∈v,-5000≤d∧d≤5000:=fun d hd=>by
  obtain ⟨j,hj,rfl⟩:=List.getElem_of_mem hd
  have:=hv j
  rwa [List.getD_eq_getElem?_getD,List.getElem?_eq_getElem hj] at this
 have hsm:∀(m:Int) k,Small30 ((v.take k).foldl (fun n x=>addM m n (absI x)) 0):=fun m k=>norm_small (fun d h=>hv' d (List.mem_of_mem_take h)) (by simp;omega)
 have f1:=pw_foldI 187 (fun n x=>addM 1 n (absI x)) v 0 rfl (by omega) (fun k _=>pw_norm1 _ _ (hsm 1 k) (hv k).1 (hv k).2)
 have f2:=pw_foldI 188 (fun n x=>addM 2 n (absI x)) v 0 rfl (by omega) (fun k _=>pw_norm2 _ _ (hsm 2 k) (hv k).1 (hv k).2)
 have f3:=pw_foldI 189 (fun n x=>addM 3 n (absI x)) v 0 rfl (by omega) (fun k _=>pw_norm3 _ _ (hsm 3 k) (hv k).1 (hv k).2)
 rw [normI_eq] at f1 f2 f3
 refine pcalls_of_pw typeTab_ok Tryz.func106 rfl (by kernel_rfl) (by simp [low_pint,low_pints]) (by simp [pint,pints,PV.ownB]) (by rw [Tryz.ntmps106];simp) ?_
 rw [Tryz.ntmps106,Tryz.results106]
 clear hsm hv'
 simp only [keyB,Bool.and_eq_true,decide_eq_true_eq] at hm
 rcases (show m=1∨m=2∨m=3 by omega) with rfl|rfl|rfl
 ·clear f2 f3
  refine wk ?_
  refine PWops.mkMG rfl rfl rfl rfl ?_
  refine PWops.mins rfl rfl rfl rfl rfl rfl rfl rfl rfl rfl rfl rfl rfl ?_
  refine PWops.mins rfl rfl rfl rfl rfl rfl rfl rfl rfl rfl rfl rfl rfl ?_
  refine PWops.mins rfl rfl rfl rfl rfl rfl rfl rfl rfl rfl rfl rfl rfl ?_
  refine wk ?_
  exact retP rfl (by exact lw) rfl
 ·clear f1 f3
  refine wk ?_
  refine PWops.mkMG rfl rfl rfl rfl ?_
  refine PWops.mins rfl rfl rfl rfl rfl rfl rfl rfl rfl rfl rfl rfl rfl ?_
  refine PWops.mins rfl rfl rfl rfl rfl rfl rfl rfl rfl rfl rfl rfl rfl ?_
  refine PWops.mins rfl rfl rfl rfl rfl rfl rfl rfl rfl rfl rfl rfl rfl ?_
  refine wk ?_
  exact retP rfl (by exact lw) rfl
 ·clear f1 f2
  refine wk ?_
  refine PWops.mkMG rfl rfl rfl rfl ?_
  refine PWops.mins rfl rfl rfl rfl rfl rfl rfl rfl rfl rfl rfl rfl rfl ?_
  refine PWops.mins rfl rfl rfl rfl rfl rfl rfl rfl rfl rfl rfl rfl rfl ?_
  refine PWops.mins rfl rfl rfl rfl rfl rfl rfl rfl rfl rfl rfl rfl rfl ?_
  refine wk ?_
  exact retP rfl (by exact lw) rfl
def keyV (m:Int) (a b:List Int):Int:=normI m (zipI subI a b)
set_option maxRecDepth 10000 in
theorem pw_vecKey (m:Int) (a b:List Int) (hm:keyB m=true) (ha:vecB a=true) (hb:vecB b=true) (hl:a.length=b.length):PCalls Tryz.prog 41 [pint m,pints a,pints b] (· = pint (keyV m a b)):=by
 obtain ⟨⟨a1,a2⟩,a3⟩:=vecB_get ha
 obtain ⟨⟨b1,b2⟩,b3⟩:=vecB_get hb
 have h1:=pw_vecSub a b (by omega) (by omega) (by omega) (by omega) (fun k=>by have:=a3 k;omega) (fun k=>by have:=b3 k;omega)
 have h2:=pw_norm m (zipI subI a b) hm (by rw [zipI_len];omega) (fun k=>by
  rcases Nat.lt_or_ge k a.length with hk|hk
  ·have e:(zipI subI a b).getD k default=a.getD k default - b.getD k default:=by
    simp [zipI,subI,List.getD_eq_getElem?_getD,hk]
   rw [e]
   have:=a3 k;have:=b3 k;omega
  ·rw [List.getD_eq_getElem?_getD,List.getElem?_eq_none (by rw [zipI_len];exact hk)];decide)
 refine pcalls_of_pw typeTab_ok Tryz.func41 rfl (by kernel_rfl) (by simp [low_pint,low_pints]) (by simp [pint,pints,PV.ownB]) (by rw [Tryz.ntmps41];simp) ?_
 rw [Tryz.ntmps41,Tryz.results41]
 refine wk ?_
 exact retP rfl (by exact lw) rfl
end Go.Proofs.YtoamkpgaaanafaaGreat

/- pivot: pairs, shells. -/
namespace Go.Proofs.YtoamkpgaaanafaaGreat
set_option linter.unusedSimpArgs false
set_option linter.unusedVariables false
set_option linter.unnecessarySimpa false
open Go.RowKit
structure PShell where
 lo:Int
 hi:Int
 deriving DecidableEq,Inhabited
def pshL (s:PShell):List PV := [pint s.lo,pint s.hi]
def psh (s:PShell):PV:=.agg (pshL s)
def pshells (l:List PShell):PV:=.sl l.length 2 (l.flatMap pshL) none
theorem low_pshL (s:PShell):∀c∈pshL s,Low c:=by
 intro c hc
 simp only [pshL,List.mem_cons,List.not_mem_nil,or_false] at hc
 rcases hc with rfl|rfl<;>exact .val _
theorem low_psh (s:PShell):Low (psh s)↔True:=⟨fun _=>trivial,fun _=>.agg _ (low_pshL s)⟩
theorem low_pshells (l:List PShell):Low (pshells l)↔True:=by
 simp only [pshells,low_sl,iff_true]
 intro c hc
 obtain ⟨z,-,hz⟩:=List.mem_flatMap.1 hc
 exact low_pshL z c hz
def withP (p:PShell) (x:Int):PShell:=⟨min p.lo x,max p.hi x⟩
def hasP (p:PShell) (x:Int):Bool:=decide (p.lo≤x) && decide (x≤p.hi)
def allP:PShell:=⟨0,134217728⟩
set_option maxRecDepth 10000 in
theorem pw_with (p:PShell) (x:Int):PCalls Tryz.prog 142 [psh p,pint x] (· = psh (withP p x)):=by
 refine pcalls_of_pw typeTab_ok Tryz.func142 rfl (by kernel_rfl) (by simp [low_pint,low_psh]) (by simp [pint,psh,PV.ownB]) (by rw [Tryz.ntmps142];simp) ?_
 rw [Tryz.ntmps142,Tryz.results142]
 unfold psh pshL withP
 refine wk ?_
 simp only [Bool.false_eq_true,if_false,if_true]
 rw [show (if x < p.lo then x else p.lo)=min p.lo x from by split<;>omega,show (if x > p.hi then x else p.hi)=max p.hi x from by split<;>omega]
 exact retP (r:=.agg [pint (min p.lo x),pint (max p.hi x)]) rfl (by simp [low_agg,low_pint]) rfl
set_option maxRecDepth 10000 in
theorem pw_has (p:PShell) (x:Int):PCalls Tryz.prog 95 [psh p,pint x] (· = pbool (hasP p x)):=by
 have h:=pw_with p x
 refine pcalls_of_pw typeTab_ok Tryz.func95 rfl (by kernel_rfl) (by simp [low_pint,low_psh]) (by simp [pint,psh,PV.ownB]) (by rw [Tryz.ntmps95];simp) ?_
 rw [Tryz.ntmps95,Tryz.results95]
 unfold psh pshL withP at *
 refine wk ?_
 have hq:peqs [.int, .int] [pint p.lo,pint p.hi] [pint (min p.lo x),pint (max p.hi x)]=some (hasP p x):=by
  have:=peqs_ints (k:=.i64) [p.lo,p.hi] [min p.lo x,max p.hi x] rfl
  refine this.trans ?_
  congr 1
  rw [Bool.eq_iff_iff]
  simp only [hasP,beq_iff_eq,List.cons.injEq,and_true,Bool.and_eq_true,decide_eq_true_eq]
  omega
 refine PWops.eqA rfl rfl rfl rfl rfl rfl rfl rfl hq (.inl rfl) ?_
 refine wk ?_
 exact retP rfl (by exact lw) rfl
set_option maxRecDepth 10000 in
theorem pw_pof (p:PShell):PCalls Tryz.prog 94 [psh p] (· = psh p):=by
 refine pcalls_of_pw typeTab_ok Tryz.func94 rfl (by kernel_rfl) (by simp [low_psh]) (by simp [psh,PV.ownB]) (by rw [Tryz.ntmps94];simp) ?_
 rw [Tryz.ntmps94,Tryz.results94]
 unfold psh pshL at *
 refine wk ?_
 exact retP (r:=.agg [pint p.lo,pint p.hi]) rfl (by simp [low_agg,low_pint]) rfl
set_option maxRecDepth 10000 in
theorem pw_all:PCalls Tryz.prog 147 [] (· = psh allP):=by
 refine pcalls_of_pw typeTab_ok Tryz.func147 rfl (by kernel_rfl) (by simp) (by simp) (by rw [Tryz.ntmps147];simp) ?_
 rw [Tryz.ntmps147,Tryz.results147]
 unfold psh pshL allP at *
 refine wk ?_
 exact retP (r:=.agg [pint 0,pint 134217728]) rfl (by simp [low_agg,low_pint]) rfl
def shellB (s:PShell):Bool:=decide (s.lo≤s.hi) && (hasP allP s.lo && hasP allP s.hi)
def shellsB (l:List PShell):Bool:=l.all shellB && decide (l.length≤8)
set_option maxRecDepth 10000 in
set_option maxHeartbeats 2000000 in
theorem pw_shValid (l:List PShell) (hl:l.length≤1000000):PCalls Tryz.prog 66 [pshells l] (· = pbool (shellsB l)):=by
 refine pcalls_of_pw typeTab_ok Tryz.func66 rfl (by kernel_rfl) (by simp [low_pshells]) (by simp [pshells,PV.ownB]) (by rw [Tryz.ntmps66];simp) ?_
 rw [Tryz.ntmps66,Tryz.results66]
 have hlow:∀x,Low (pshells x):=fun x=>(low_pshells x).2 trivial
 have ha:=pw_all
 unfold shellsB
 refine wk ?_
 refine PW.loop (fun k:Nat=>((((bot.put 0 (pshells l)).put 5 (pshells l)).put 6 (pint l.length)).put 7 (pint k))) (fun k=>k≤l.length∧∀j,j < k→shellB (l.getD j default)=true) (fun k=>l.length - k) 0 ⟨by omega,by simp⟩ ?_ ?_
 ·exact sb
 ·rintro k ⟨hk,hn⟩
  have hno:k < l.length→shellB (l.getD k default)=false→l.all shellB=false:=fun hlt h=>by
   rw [List.all_eq_false]
   exact ⟨l.getD k default,by rw [List.getD_eq_getElem?_getD,List.getElem?_eq_getElem hlt];exact List.getElem_mem hlt,by rw [h];simp⟩
  by_cases hlt:k < l.length
  ·have hh1:=pw_has allP (l.getD k default).lo
   have hh2:=pw_has allP (l.getD k default).hi
   by_cases c1:(l.getD k default).lo≤(l.getD k default).hi
   ·cases c2:hasP allP (l.getD k default).lo with
    |false=>
     rw [c2] at hh1
     clear hh2
     refine wk ?_
     refine retP rfl (by exact lw) ?_
     rw [hno hlt (by simp only [shellB,c2,Bool.false_and,Bool.and_false])];rfl
    |true=>
     rw [c2] at hh1
     cases c3:hasP allP (l.getD k default).hi with
     |false=>
      rw [c3] at hh2
      refine wk ?_
      refine retP rfl (by exact lw) ?_
      rw [hno hlt (by simp only [shellB,c3,Bool.and_false])];rfl
     |true=>
      rw [c3] at hh2
      refine wk ?_
      refine loopP (k+1) ⟨by omega,fun j hj=>?_⟩ (by omega) ?_
      ·by_cases h:j=k
       ·rw [h];simp only [shellB,decide_eq_true c1,c2,c3];rfl
       ·exact hn j (by omega)
      ·exact sb
   ·clear hh1 hh2
    refine wk ?_
    refine retP rfl (by exact lw) ?_
    rw [hno hlt (by simp only [shellB,decide_eq_false c1,Bool.false_and])];rfl
  ·have hall:l.all shellB=true:=by
    rw [List.all_eq_true]
    intro x hx
    obtain ⟨j,hj,rfl⟩:=List.getElem_of_mem hx
    have:=hn j (by omega)
    rwa [List.getD_eq_getElem?_getD,List.getElem?_eq_getElem hj] at this
   rw [hall]
   by_cases h8:l.length≤8
   ·refine wk ?_
    exact retP rfl (by exact lw) (by simp [pbool,h8])
   ·refine wk ?_
    exact retP rfl (by exact lw) (by simp [pbool,h8])
end Go.Proofs.YtoamkpgaaanafaaGreat

/- pivot: Join, In; vectors that fit. -/
namespace Go.Proofs.YtoamkpgaaanafaaGreat
set_option linter.unusedSimpArgs false
set_option linter.unusedVariables false
set_option linter.unnecessarySimpa false
open Go.RowKit
theorem shellB_iff {s:PShell} : shellB s=true↔0≤s.lo∧s.lo≤s.hi∧s.hi≤134217728:=by
 have e1:allP.lo=0:=rfl
 have e2:allP.hi=134217728:=rfl
 simp only [shellB,hasP,Bool.and_eq_true,decide_eq_true_eq]
 omega
theorem shellsB_get {l:List PShell} (h:shellsB l=true):l.length≤8∧∀k,k < l.length→shellB (l.getD k default)=true:=by
 simp only [shellsB,Bool.and_eq_true,decide_eq_true_eq,List.all_eq_true] at h
 refine ⟨h.2,fun k hk=>h.1 _ ?_⟩
 rw [List.getD_eq_getElem?_getD,List.getElem?_eq_getElem hk];exact List.getElem_mem hk
def joinS (a b:List PShell):List PShell:=(List.range a.length).map fun k=>⟨min (min (a.getD k default).lo (b.getD k default).lo) (b.getD k default).hi,max (max (a.getD k default).hi (b.getD k default).lo) (b.getD k default).hi⟩
def shJoin (a b:List PShell):List PShell×Int:=if shellsB a && (shellsB b && decide (a.length=b.length)) then (joinS a b,0) else ([],1)
theorem joinS_len (a b:List PShell):(joinS a b).length=a.length:=by simp [joinS]
theorem joinS_take {a b:List PShell} {k:Nat} (h:k < a.length):(joinS a b).take (k+1)=(joinS a b).take k ++ [withP (withP (a.getD k default) (b.getD k default).lo) (b.getD k default).hi]:=by
 rw [List.take_add_one]
 congr 1
 simp [joinS,h,withP]
theorem low_shapp (n:Nat) (l:List PShell) (x:PShell) (own:Option TypeId):Low (.sl n 2 (l.flatMap pshL ++ pshL x) own):=by
 refine .sl _ _ _ _ fun c hc=>?_
 rcases List.mem_append.1 hc with h|h
 ·obtain ⟨z,-,hz⟩:=List.mem_flatMap.1 h;exact low_pshL z c hz
 ·exact low_pshL x c h
theorem low_shown (n:Nat) (l:List PShell) (own:Option TypeId):Low (.sl n 2 (l.flatMap pshL) own):=by
 refine .sl _ _ _ _ fun c hc=>?_
 obtain ⟨z,-,hz⟩:=List.mem_flatMap.1 hc;exact low_pshL z c hz
theorem weak_nosh {c:Int} : Weak (.tup [.nilsl, .val (.int .i64 c)]) (.tup [pshells [],pint c]):=Weak.tup (.cons (Weak.nil 2) (.cons (Weak.refl _) .nil))
set_option maxRecDepth 10000 in
set_option maxHeartbeats 2000000 in
theorem pw_shJoin (a b:List PShell) (h1:a.length≤1000000) (h2:b.length≤1000000):PCalls Tryz.prog 110 [pshells a,pshells b] (· = .tup [pshells (shJoin a b).1,pint (shJoin a b).2]):=by
 have hv:=pw_shValid a h1
 have hw:=pw_shValid b h2
 refine PCalls.weak ?_
 refine pcalls_of_pw typeTab_ok Tryz.func110 rfl (by kernel_rfl) (by simp [low_pshells]) (by simp [pshells,PV.ownB]) (by rw [Tryz.ntmps110];simp) ?_
 rw [Tryz.ntmps110,Tryz.results110]
 have hlow:∀x,Low (pshells x):=fun x=>(low_pshells x).2 trivial
 unfold shJoin
 cases e1:shellsB a with
 |false=>
  rw [e1] at hv
  clear hw
  refine wk ?_
  exact retP (r:=.tup [.nilsl,pint 1]) rfl (by simp [low_tup,low_nilsl,low_pint]) weak_nosh
 |true=>
  rw [e1] at hv
  cases e2:shellsB b with
  |false=>
   rw [e2] at hw
   refine wk ?_
   exact retP (r:=.tup [.nilsl,pint 1]) rfl (by simp [low_tup,low_nilsl,low_pint]) weak_nosh
  |true=>
   rw [e2] at hw
   by_cases e3:a.length=b.length
   ·obtain ⟨a8,-⟩:=shellsB_get e1
    refine wk ?_
    refine PW.loop (fun k:Nat=>(((((bot.put 1 (pshells b)).put 6 (.sl k 2 (((joinS a b).take k).flatMap pshL) (some 119))).put 25 (pshells a)).put 26 (pint a.length)).put 27 (pint k))) (fun k=>k≤a.length) (fun k=>a.length - k) 0 (by omega) ?_ ?_
    ·exact sb
    ·intro k hk
     by_cases hlt:k < a.length
     ·have hlen:=joinS_len a b
      have p1:=pw_pof (a.getD k default)
      have p2:=pw_with (a.getD k default) (b.getD k default).lo
      have p3:=pw_with (withP (a.getD k default) (b.getD k default).lo) (b.getD k default).hi
      refine wk ?_
      refine loopP (k+1) (by omega) (by omega) ?_
      simp only [joinS_take hlt,List.flatMap_append,List.flatMap_cons,List.flatMap_nil,List.append_nil]
      have hl3:=low_shapp (k+1) ((joinS a b).take k) (withP (withP (a.getD k default) (b.getD k default).lo) (b.getD k default).hi) (some 119)
      exact sb
     ·refine wk ?_
      have hkk:k=a.length:=by omega
      refine retP (r:=.tup [.sl k 2 (((joinS a b).take k).flatMap pshL) none,pint 0]) rfl (low_tup.2 (by simp only [List.mem_cons,List.not_mem_nil,or_false];rintro c (rfl|rfl);exact low_shown _ _ _;exact .val _)) ?_
      rw [if_pos (by simp [e3]),List.take_of_length_le (by rw [joinS_len];omega),hkk,←joinS_len a b]
      exact Weak.refl _
   ·refine wk ?_
    refine retP (r:=.tup [.nilsl,pint 1]) rfl (by simp [low_tup,low_nilsl,low_pint]) ?_
    rw [if_neg (by simp [e3])];exact weak_nosh
def alikeB (a b:List Int):Bool:=decide (a.length=b.length) && (vecB a && vecB b)
set_option maxRecDepth 10000 in
theorem pw_alike (a b:List Int) (h1:a.length≤1000000) (h2:b.length≤1000000):PCalls Tryz.prog 229 [pints a,pints b] (· = pbool (alikeB a b)):=by
 have hv:=pw_vecValid a h1
 have hw:=pw_vecValid b h2
 refine pcalls_of_pw typeTab_ok Tryz.func229 rfl (by kernel_rfl) (by simp [low_pints]) (by simp [pints,PV.ownB]) (by rw [Tryz.ntmps229];simp) ?_
 rw [Tryz.ntmps229,Tryz.results229]
 unfold alikeB
 by_cases e1:a.length=b.length
 ·cases e2:vecB a with
  |false=>
   rw [e2] at hv
   clear hw
   refine wk ?_
   exact retP rfl (by exact lw) (by simp [pbool])
  |true=>
   rw [e2] at hv
   cases e3:vecB b <;>
   ·rw [e3] at hw
    refine wk ?_
    exact retP rfl (by exact lw) (by simp [pbool,e1])
 ·refine wk ?_
  exact retP rfl (by exact lw) (by simp [pbool,e1])
def fitB (l:List (List Int)):Bool:=decide (1≤l.length) && (decide (l.length≤4096) && !l.any fun v => !alikeB (l.getD 0 default) v)
set_option maxRecDepth 10000 in
theorem pw_fit1 (l:List (List Int)) (v:List Int) (hl:0 < l.length) (h0:(l.getD 0 default).length≤1000000) (hv:v.length≤1000000):PCalls Tryz.prog 256 [pints v, .ep [pvecs l] 0] (· = pbool (!alikeB (l.getD 0 default) v)):=by
 have h:=pw_alike (l.getD 0 default) v h0 hv
 have hlow:Low (.ep [pvecs l] 0):=by simp [low_ep,low_pvecs]
 refine pcalls_of_pw typeTab_ok Tryz.func256 rfl (by kernel_rfl) (by simp [low_pints,hlow]) (by simp [pints,PV.ownB]) (by rw [Tryz.ntmps256];simp) ?_
 rw [Tryz.ntmps256,Tryz.results256]
 cases e1:alikeB (l.getD 0 default) v <;>
 ·rw [e1] at h
  refine wk ?_
  exact retP rfl (by exact lw) rfl
theorem getD_mem {α:Type} [Inhabited α] {l:List α} {k:Nat} (h:k < l.length):l.getD k default∈l:=by
 rw [List.getD_eq_getElem?_getD,List.getElem?_eq_getElem h];exact List.getElem_mem h
set_option maxRecDepth 10000 in
set_option maxHeartbeats 1000000 in
theorem pw_fit (l:List (List Int)) (hl:l.length≤1000000) (hv:∀v∈l,v.length≤1000000):PCalls Tryz.prog 228 [pvecs l] (· = pbool (fitB l)):=by
 refine pcalls_of_pw typeTab_ok Tryz.func228 rfl (by kernel_rfl) (by simp [low_pvecs]) (by simp [pvecs,PV.ownB]) (by rw [Tryz.ntmps228];simp) ?_
 rw [Tryz.ntmps228,Tryz.results228]
 refine PW.seq ?_
 refine PW.region typeTab_ok (by kernel_rfl) ?_
 refine wg ?_
 refine PW.freezeP (id:=0) (s:=1) (off:=0) (σ':=bot) rfl rfl (fun c hc=>by simp only [List.mem_cons,List.not_mem_nil,or_false] at hc;subst hc;exact (low_pvecs _).2 trivial) (by exact sbr0) rfl ?_
 unfold fitB
 by_cases h1:1≤l.length
 ·by_cases h2:l.length≤4096
  ·have h:=pw_anyV 256 [.ep [pvecs l] 0] (fun v => !alikeB (l.getD 0 default) v) l rfl (by omega) (by simp [low_ep,low_pvecs]) (fun k hk=>pw_fit1 l _ (by omega) (hv _ (getD_mem (by omega))) (hv _ (getD_mem hk)))
   cases e1:l.any (fun v => !alikeB (l.getD 0 default) v) <;>
   ·rw [e1] at h
    refine wk ?_
    exact retP rfl (by exact lw) (by simp [pbool,h1,h2])
  ·refine wk ?_
   exact retP rfl (by exact lw) (by simp [pbool,h2])
 ·refine wk ?_
  exact retP rfl (by exact lw) (by simp [pbool,h1])
end Go.Proofs.YtoamkpgaaanafaaGreat

/- Integer roots (no program). -/
namespace Go.Proofs.YtoamkpgaaanafaaGreat
set_option linter.unusedSimpArgs false
set_option linter.unusedVariables false
set_option linter.unnecessarySimpa false
def rootG (n:Nat):Nat→Nat→Nat
 |0,out=>out
 |k+1,out=>rootG n k (if (out+2 ^ k) * (out+2 ^ k)≤n then out+2 ^ k else out)
def rootN (n:Nat):Nat:=rootG n 31 0
theorem rootG_spec (n:Nat):∀k out,out * out≤n→n < (out+2 ^ k) * (out+2 ^ k)→rootG n k out * rootG n k out≤n∧n < (rootG n k out+1) * (rootG n k out+1)
 |0,out,h1,h2=>⟨h1,h2⟩
 |k+1,out,h1,h2=>by
  unfold rootG
  by_cases h:(out+2 ^ k) * (out+2 ^ k)≤n
  ·rw [if_pos h]
   refine rootG_spec n k _ h ?_
   rwa [Nat.add_assoc,←Nat.two_mul,Nat.mul_comm 2,←Nat.pow_succ]
  ·rw [if_neg h]
   exact rootG_spec n k _ h1 (by omega)
theorem rootN_spec {n:Nat} (h:n≤1152921504606846976):rootN n * rootN n≤n∧n < (rootN n+1) * (rootN n+1):=
 rootG_spec n 31 0 (Nat.zero_le _) (Nat.lt_of_le_of_lt h (by decide))
theorem rootN_le {n:Nat} (h:n≤1152921504606846976):rootN n≤1073741824:=by
 obtain ⟨h3,h4⟩:=rootN_spec h
 have:rootN n < 1073741824+1:=Nat.mul_self_lt_mul_self_iff.1 (by omega)
 omega
theorem newton_ge {n x:Nat} (h:n≤1152921504606846976) (hx:0 < x):rootN n≤(x+n / x) / 2:=by
 obtain ⟨h3,h4⟩:=rootN_spec h
 rcases Nat.lt_or_ge ((x+n / x) / 2) (rootN n) with hlt|hge
 ·exfalso
  generalize rootN n=r at *
  have e1:n / x+1≤2 * r - x:=by omega
  have e2:n < x * (2 * r - x):=by
   have:=Nat.lt_mul_div_succ n hx
   exact Nat.lt_of_lt_of_le this (Nat.mul_le_mul_left x e1)
  have e3:x * (2 * r - x)≤r * r:=by
   rcases Nat.le_total x r with hl|hl
   ·obtain ⟨d,rfl⟩:=Nat.exists_eq_add_of_le hl
    rw [show 2 * (x+d) - x=x+2 * d by omega]
    grind
   ·obtain ⟨d,rfl⟩:=Nat.exists_eq_add_of_le hl
    rcases Nat.le_total d r with hd|hd
    ·obtain ⟨f,rfl⟩:=Nat.exists_eq_add_of_le hd
     rw [show 2 * (d+f) - (d+f+d)=f by omega]
     grind
    ·rw [show 2 * r - (r+d)=0 by omega,Nat.mul_zero];exact Nat.zero_le _
  omega
 ·exact hge
theorem newton_done {n x:Nat} (h:n≤1152921504606846976) (hx:0 < x) (hr:rootN n≤x) (hy:x≤(x+n / x) / 2):x=rootN n:=by
 obtain ⟨h3,h4⟩:=rootN_spec h
 have h1:x≤n / x:=by omega
 have h2:x * x≤n:=by
  have:=Nat.mul_le_mul_left x h1
  exact Nat.le_trans this (Nat.mul_div_le n x)
 have:x < rootN n+1:=Nat.mul_self_lt_mul_self_iff.1 (Nat.lt_of_le_of_lt h2 h4)
 omega
theorem bitLenAux_lt:∀(f x:Nat),x < 2 ^ f→x < 2 ^ Go.Lib.bitLenAux f x
 |0,x,h=>h
 |f+1,x,h=>by
  unfold Go.Lib.bitLenAux
  by_cases h0:x=0
  ·rw [if_pos h0];omega
  ·rw [if_neg h0]
   have:=bitLenAux_lt f (x / 2) (by rw [Nat.pow_succ] at h;omega)
   rw [Nat.add_comm 1,Nat.pow_succ];omega
theorem bitLen_lt {x:Nat} (h:x < 2 ^ 64):x < 2 ^ Go.Lib.bitLen x:=bitLenAux_lt 64 x h
theorem bitLenAux_ge:∀(f x k:Nat),x < 2 ^ k→Go.Lib.bitLenAux f x≤k
 |0,x,k,h=>Nat.zero_le _
 |f+1,x,k,h=>by
  unfold Go.Lib.bitLenAux
  by_cases h0:x=0
  ·rw [if_pos h0];exact Nat.zero_le _
  ·rw [if_neg h0]
   cases k with
   |zero=>simp at h;omega
   |succ k=>
    have:=bitLenAux_ge f (x / 2) k (by rw [Nat.pow_succ] at h;omega)
    omega
def newt0 (n:Nat):Nat:=2 ^ ((Go.Lib.bitLen n+1) / 2)
theorem newt0_le {n:Nat} (h:n≤1152921504606846976):Go.Lib.bitLen n≤61:=bitLenAux_ge 64 n 61 (Nat.lt_of_le_of_lt h (by decide))
theorem newt0_ge {n:Nat} (h:n≤1152921504606846976):rootN n≤newt0 n∧newt0 n≤2147483648∧0 < newt0 n:=by
 have h1:=newt0_le h
 obtain ⟨h3,h4⟩:=rootN_spec h
 refine ⟨?_,?_,Nat.pow_pos (by decide)⟩
 ·have h5:=bitLen_lt (x:=n) (by omega)
  have h6:n < newt0 n * newt0 n:=by
   unfold newt0
   rw [←Nat.pow_add]
   exact Nat.lt_of_lt_of_le h5 (Nat.pow_le_pow_right (by decide) (by omega))
  have:=Nat.mul_self_lt_mul_self_iff.1 (Nat.lt_of_le_of_lt h3 h6)
  omega
 ·unfold newt0
  exact Nat.le_trans (Nat.pow_le_pow_right (by decide) (show (Go.Lib.bitLen n+1) / 2≤31 by omega)) (by decide)
def clampI (x lo hi:Int):Int:=max lo (min x hi)
def rootI (n:Int):Int:=(rootN (clampI n 0 1152921504606846976).toNat:Nat)
theorem rootI_bound (n:Int):0≤rootI n∧rootI n≤1073741824:=by
 have:=rootN_le (n:=(clampI n 0 1152921504606846976).toNat) (by unfold clampI;omega)
 unfold rootI
 omega
def lowM (m a b:Int):Int:=if m=2 then a+b - rootI (4 * a * b) else max a b - min a b
def gapM (m lo hi a:Int):Int:=lowM m a (clampI a lo hi)
end Go.Proofs.YtoamkpgaaanafaaGreat

/- metric: clamp, Valid, Isqrt, Low, Gap; those of the specification. -/
namespace Go.Proofs.YtoamkpgaaanafaaGreat
set_option linter.unusedSimpArgs false
set_option linter.unusedVariables false
set_option linter.unnecessarySimpa false
open Go.RowKit
section
variable {P:Program} {T:Tab} {σ:PS} {o:Oper} {i base:Nat} {ops:Array Oper} {ok:Nat→Nat→Bool} {rest:List (Nat×Oper)} {K:PS→Prop}
theorem PWops.quoG {d:Nat} {u v:Int} {t tt:TypeId} {x y:Operand} (hop:o.op = .binOp .quo t x y tt) (hg:pguard ops σ o=some true) (hd:o.dst=some d) (hx:pev σ x = .val (.int .i64 u)) (hy:pev σ y = .val (.int .i64 v)) (h:0≤u∧0 < v∧u≤9223372036854775807) (hb:σ.freeB (base+i)=true) (k:PWops P T ops base ok rest K (σ.put d (.val (.int .i64 (u / v))))):PWops P T ops base ok ((i,o) :: rest) K σ:=by
 have e1:u / v≤u:=Int.ediv_le_self _ h.1
 have e2:0≤u / v:=Int.ediv_nonneg h.1 (by omega)
 refine PWops.valEq hg hd (p:=.val (.int .i64 (IntKind.i64.wrap (u.tdiv v)))) ?_ (by rw [Int.tdiv_eq_ediv_of_nonneg h.1,IntWalk.i64_in _ ⟨by omega,by omega⟩]) hb k
 have h0:v≠0:=by omega
 simp [hop,presE,pvalA,pval,pev_only,hx,hy,pbin,h0]
end
theorem pw_clamp (x lo hi:Int):PCalls Tryz.prog 236 [pint x,pint lo,pint hi] (· = pint (clampI x lo hi)):=by
 refine pcalls_of_pw typeTab_ok Tryz.func236 rfl (by kernel_rfl) (by simp [low_pint]) (by simp [pint,PV.ownB]) (by rw [Tryz.ntmps236];simp) ?_
 rw [Tryz.ntmps236,Tryz.results236]
 refine wk ?_
 refine retP rfl (by exact lw) ?_
 simp only [if_true,pint,clampI]
 congr 2
 grind
def metB (m k:Int):Bool:=keyB m && decide (0≤k∧k≤134217728)
theorem pw_metValid (m k:Int):PCalls Tryz.prog 260 [pint m,pint k] (· = pbool (metB m k)):=by
 have h:=pw_clamp k 0 134217728
 refine pcalls_of_pw typeTab_ok Tryz.func260 rfl (by kernel_rfl) (by simp [low_pint]) (by simp [pint,PV.ownB]) (by rw [Tryz.ntmps260];simp) ?_
 rw [Tryz.ntmps260,Tryz.results260]
 unfold metB keyB
 by_cases h1:1≤m
 ·by_cases h2:m≤3
  ·by_cases h3:clampI k 0 134217728=k
   ·refine wk ?_
    refine retP rfl (by exact lw) ?_
    rw [show decide (0≤k∧k≤134217728)=true from decide_eq_true (by unfold clampI at h3;omega)]
    simp [pbool,h1,h2]
   ·refine wk ?_
    refine retP rfl (by exact lw) ?_
    rw [show decide (0≤k∧k≤134217728)=false from decide_eq_false (by unfold clampI at h3;omega)]
    simp [pbool]
  ·refine wk ?_
   exact retP rfl (by exact lw) (by simp [pbool,h2])
 ·refine wk ?_
  exact retP rfl (by exact lw) (by simp [pbool,h1])
theorem pw_isMetric (m:Int):PCalls Tryz.prog 234 [pint m] (· = pbool (keyB m)):=by
 have h:=pw_metValid m 0
 rw [show metB m 0=keyB m by simp [metB]] at h
 refine pcalls_of_pw typeTab_ok Tryz.func234 rfl (by kernel_rfl) (by simp [low_pint]) (by simp [pint,PV.ownB]) (by rw [Tryz.ntmps234];simp) ?_
 rw [Tryz.ntmps234,Tryz.results234]
 refine wk ?_
 exact retP rfl (by exact lw) rfl
theorem pc_bitLen (x:Int) (h0:0≤x) (h1:x≤1152921504606846976):PCalls Tryz.prog 267 [.val (.int .u64 x)] (· = pint (Go.Lib.bitLen x.toNat)):=by
 refine ⟨by kernel_rfl,fun Φ μ w vs himm hgl hrep=>?_⟩
 have hl1:=hrep.1
 match vs,hl1 with
 | [v],_=>
 obtain ⟨rfl,-⟩:=(hrep.2 0 _ v rfl rfl).val_inv
 refine (Tryz.bits_Len x w h0 (by omega)).mono ?_
 rintro e w' ⟨rfl,rfl⟩
 exact ⟨_,_,Φ,rfl,rfl, .val _ rfl,himm,fun _ _ _=>rfl,Below.refl _ _,fun n k cs E e=>by cases e⟩
set_option maxRecDepth 10000 in
set_option maxHeartbeats 1000000 in
theorem pw_isqrt (n:Int):PCalls Tryz.prog 284 [pint n] (· = pint (rootI n)):=by
 have hc:=pw_clamp n 0 1152921504606846976
 refine pcalls_of_pw typeTab_ok Tryz.func284 rfl (by kernel_rfl) (by simp [low_pint]) (by simp [pint,PV.ownB]) (by rw [Tryz.ntmps284];simp) ?_
 rw [Tryz.ntmps284,Tryz.results284]
 unfold rootI
 obtain ⟨m,hm⟩:∃m:Nat,clampI n 0 1152921504606846976=m:=⟨(clampI n 0 1152921504606846976).toNat,by unfold clampI;omega⟩
 have hm1:m≤1152921504606846976:=by unfold clampI at hm;omega
 rw [hm] at hc ⊢
 rw [Int.toNat_natCast]
 have hb:=pc_bitLen m (by omega) (by omega)
 rw [Int.toNat_natCast] at hb
 have hw:IntKind.u64.wrap (m:Int)=m:=by simp [IntKind.wrap,IntKind.signed,IntKind.bits];omega
 have hbl:=newt0_le hm1
 obtain ⟨q1,q2,q3⟩:=newt0_ge hm1
 by_cases h0:(m:Int)=0
 ·refine wk ?_
  refine retP rfl (by exact lw) ?_
  rw [show m=0 by omega];rfl
 ·rw [←hw] at hb
  refine wk ?_
  rw [hw]
  refine wk ?_
  have hx0:IntKind.i64.wrap (1 * 2 ^ min ((((Lib.bitLen m:Nat):Int)+1) / 2).toNat IntKind.i64.bits)=(newt0 m:Nat):=by
   have e1:min ((((Lib.bitLen m:Nat):Int)+1) / 2).toNat IntKind.i64.bits=(Lib.bitLen m+1) / 2:=by
    rw [show ((((Lib.bitLen m:Nat):Int)+1) / 2).toNat=(Lib.bitLen m+1) / 2 by omega]
    exact Nat.min_eq_left (by show _≤64;omega)
   rw [e1,Int.one_mul]
   have e2:((2:Int) ^ ((Lib.bitLen m+1) / 2))=(newt0 m:Nat):=by rw [newt0,Int.natCast_pow];rfl
   rw [e2]
   exact IntWalk.i64_in _ ⟨by omega,by omega⟩
  rw [hx0]
  refine PW.loop (fun x:Nat=>(bot.put 0 (pint m)).put 3 (pint x)) (fun x=>rootN m≤x∧0 < x∧x≤2147483648) (fun x=>x) (newt0 m) ⟨q1,q3,q2⟩ ?_ ?_
  ·exact sb
  ·rintro x ⟨i1,i2,i3⟩
   obtain ⟨q,hq⟩:∃q:Nat,m / x=q:=⟨_,rfl⟩
   have hdv:(q:Int)=(m:Int) / (x:Int):=by rw [←hq];exact Int.natCast_ediv _ _
   have hdl:q≤m:=by rw [←hq];exact Nat.div_le_self _ _
   have hge:=newton_ge hm1 i2
   have hdone:=newton_done hm1 i2 i1
   rw [hq] at hge hdone
   by_cases hy:x≤(x+q) / 2
   ·refine wk ?_
    refine PWops.quoG rfl rfl rfl rfl rfl (by omega) rfl ?_
    rw [←hdv]
    refine wk ?_
    refine retP rfl (by exact lw) ?_
    rw [←hdone hy];rfl
   ·refine wk ?_
    refine PWops.quoG rfl rfl rfl rfl rfl (by omega) rfl ?_
    rw [←hdv]
    refine wk ?_
    have hne:0 < (x+q) / 2:=by
     rcases Nat.eq_zero_or_pos (rootN m) with hz|hz
     ·have:=(rootN_spec hm1).2
      rw [hz] at this;omega
     ·omega
    have hI:rootN m≤(x+q) / 2∧0 < (x+q) / 2∧(x+q) / 2≤2147483648:=⟨hge,hne,by omega⟩
    have hM:(x+q) / 2 < x:=by omega
    refine loopP ((x+q) / 2) ?_ ?_ ?_
    ·exact hI
    ·exact hM
    have e:(((x:Int)+(q:Int)) / 2)=(((x+q) / 2:Nat):Int):=by omega
    rw [e]
    exact sb
set_option maxRecDepth 10000 in
theorem pw_sq11 (s a b:Int) (hs:s = -1∨s=1) (ha:0≤a∧a≤134217728) (hb:0≤b∧b≤134217728):PCalls Tryz.prog 283 [pint a,pint b, .ep [pint s] 0] (· = pint (a+b+s * rootI (4 * a * b))):=by
 have h:=pw_isqrt (4 * a * b)
 have hr:=rootI_bound (4 * a * b)
 have hm0:0≤4 * a * b:=Int.mul_nonneg (by omega) hb.1
 have hm1:4 * a * b≤536870912 * 134217728:=Int.mul_le_mul (by omega) hb.2 hb.1 (by decide)
 have hsr : -1073741824≤s * rootI (4 * a * b)∧s * rootI (4 * a * b)≤1073741824:=by
  rcases hs with rfl|rfl<;>omega
 refine pcalls_of_pw typeTab_ok Tryz.func283 rfl (by kernel_rfl) (by simp [low_pint,low_ep]) (by simp [pint,PV.ownB]) (by rw [Tryz.ntmps283];simp) ?_
 rw [Tryz.ntmps283,Tryz.results283]
 refine wk ?_
 exact retP rfl (by exact lw) rfl
theorem low_clo (f:Nat) (s:Int):Low (.fn f [.ep [pint s] 0]):=by simp [low_fn,low_ep,low_pint]
set_option maxRecDepth 10000 in
theorem pw_sq1 (s:Int):PCalls Tryz.prog 282 [pint s] (· = .fn 283 [.ep [pint s] 0]):=by
 have hlow:=low_clo
 refine pcalls_of_pw typeTab_ok Tryz.func282 rfl (by kernel_rfl) (by simp [low_pint]) (by simp [pint,PV.ownB]) (by rw [Tryz.ntmps282];simp) ?_
 rw [Tryz.ntmps282,Tryz.results282]
 refine PW.seq ?_
 refine PW.region typeTab_ok (by kernel_rfl) ?_
 refine wg ?_
 refine PW.freezeP (id:=0) (s:=1) (off:=0) (σ':=bot) rfl rfl (fun c hc=>by simp only [List.mem_cons,List.not_mem_nil,or_false] at hc;subst hc;exact .val _) (by exact sbr0) rfl ?_
 refine wk ?_
 exact retP rfl (hlow _ _) rfl
def prules (m:Int):PV:=if m=2 then .agg [.fn 283 [.ep [pint (-1)] 0], .fn 283 [.ep [pint 1] 0]] else .agg [.fn 285 [], .fn 286 []]
set_option maxRecDepth 10000 in
theorem pw_square:PCalls Tryz.prog 268 [] (· = prules 2):=by
 have h1:=pw_sq1 (-1)
 have h2:=pw_sq1 1
 refine pcalls_of_pw typeTab_ok Tryz.func268 rfl (by kernel_rfl) (by simp) (by simp) (by rw [Tryz.ntmps268];simp) ?_
 rw [Tryz.ntmps268,Tryz.results268]
 refine wk ?_
 refine retP rfl ?_ rfl
 simp [low_agg,low_clo]
set_option maxRecDepth 10000 in
theorem pw_sum:PCalls Tryz.prog 269 [] (· = prules 1):=by
 refine pcalls_of_pw typeTab_ok Tryz.func269 rfl (by kernel_rfl) (by simp) (by simp) (by rw [Tryz.ntmps269];simp) ?_
 rw [Tryz.ntmps269,Tryz.results269]
 refine wk ?_
 refine retP rfl ?_ rfl
 simp [low_agg,low_fn]
theorem low_prules (m:Int):Low (prules m):=by
 unfold prules;split<;>simp [low_agg,low_fn,low_ep,low_pint]
set_option maxRecDepth 10000 in
theorem pw_metOf (m:Int):PCalls Tryz.prog 261 [pint m] (· = prules m):=by
 refine pcalls_of_pw typeTab_ok Tryz.func261 rfl (by kernel_rfl) (by simp [low_pint]) (by simp [pint,PV.ownB]) (by rw [Tryz.ntmps261];simp) ?_
 rw [Tryz.ntmps261,Tryz.results261]
 by_cases h:m=2
 ·subst h
  have h1:=pw_square
  refine wk ?_
  exact retP rfl (low_prules 2) rfl
 ·have h1:=pw_sum
  refine wk ?_
  have e:prules m=prules 1:=by unfold prules;rw [if_neg h,if_neg (by decide)]
  rw [e]
  exact retP rfl (low_prules 1) rfl
set_option maxRecDepth 10000 in
theorem pw_sum1 (a b:Int) (ha:0≤a∧a≤134217728) (hb:0≤b∧b≤134217728):PCalls Tryz.prog 285 [pint a,pint b] (· = pint (max a b - min a b)):=by
 refine pcalls_of_pw typeTab_ok Tryz.func285 rfl (by kernel_rfl) (by simp [low_pint]) (by simp [pint,PV.ownB]) (by rw [Tryz.ntmps285];simp) ?_
 rw [Tryz.ntmps285,Tryz.results285]
 rcases Int.le_total a b with h|h
 ·refine wk ?_
  refine retP rfl (by exact lw) ?_
  simp only [if_true,pint]
  congr 2;grind
 ·refine wk ?_
  refine retP rfl (by exact lw) ?_
  simp only [if_true,pint]
  congr 2;grind
set_option maxRecDepth 10000 in
theorem pw_metLow (m a b:Int) (ha:0≤a∧a≤134217728) (hb:0≤b∧b≤134217728):PCalls Tryz.prog 235 [pint m,pint a,pint b] (· = pint (lowM m a b)):=by
 have h0:=pw_metOf m
 refine pcalls_of_pw typeTab_ok Tryz.func235 rfl (by kernel_rfl) (by simp [low_pint]) (by simp [pint,PV.ownB]) (by rw [Tryz.ntmps235];simp) ?_
 rw [Tryz.ntmps235,Tryz.results235]
 unfold lowM
 by_cases h:m=2
 ·subst h
  have h1:=pw_sq11 (-1) a b (.inl rfl) ha hb
  have hp:prules 2 = .agg [.fn 283 [.ep [pint (-1)] 0], .fn 283 [.ep [pint 1] 0]]:=rfl
  rw [hp] at h0
  refine wk ?_
  refine retP rfl (by exact lw) ?_
  rw [if_pos rfl]
  congr 2;omega
 ·have h1:=pw_sum1 a b ha hb
  have hp:prules m = .agg [.fn 285 [], .fn 286 []]:=if_neg h
  rw [hp] at h0
  refine wk ?_
  refine retP rfl (by exact lw) ?_
  rw [if_neg h];rfl
set_option maxRecDepth 10000 in
theorem pw_gap (m lo hi a:Int) (ha:0≤a∧a≤134217728) (h1:0≤lo∧lo≤hi∧hi≤134217728):PCalls Tryz.prog 154 [pint m,pint lo,pint hi,pint a] (· = pint (gapM m lo hi a)):=by
 have hc:=pw_clamp a lo hi
 have h0:=pw_metLow m a (clampI a lo hi) ha (by unfold clampI;omega)
 refine pcalls_of_pw typeTab_ok Tryz.func154 rfl (by kernel_rfl) (by simp [low_pint]) (by simp [pint,PV.ownB]) (by rw [Tryz.ntmps154];simp) ?_
 rw [Tryz.ntmps154,Tryz.results154]
 refine wk ?_
 exact retP rfl (by exact lw) rfl
end Go.Proofs.YtoamkpgaaanafaaGreat

/- pivot: In, arePivots, keys, Table. -/
namespace Go.Proofs.YtoamkpgaaanafaaGreat
set_option linter.unusedSimpArgs false
set_option linter.unusedVariables false
set_option linter.unnecessarySimpa false
open Go.RowKit
def pivotsB (m:Int) (pv:List (List Int)):Bool:=keyB m && (fitB pv && decide (pv.length≤8))
set_option maxRecDepth 10000 in
theorem pw_arePivots (m:Int) (pv:List (List Int)) (h1:pv.length≤1000000) (hv:∀v∈pv,v.length≤1000000):PCalls Tryz.prog 227 [pint m,pvecs pv] (· = pbool (pivotsB m pv)):=by
 have a1:=pw_isMetric m
 have a2:=pw_fit pv h1 hv
 refine pcalls_of_pw typeTab_ok Tryz.func227 rfl (by kernel_rfl) (by simp [low_pvecs,low_pint]) (by simp [pvecs,pint,PV.ownB]) (by rw [Tryz.ntmps227];simp) ?_
 rw [Tryz.ntmps227,Tryz.results227]
 have hlow:∀x,Low (pvecs x):=fun x=>(low_pvecs x).2 trivial
 unfold pivotsB
 cases e1:keyB m with
 |false=>
  rw [e1] at a1
  refine wk ?_
  exact retP rfl (by exact lw) rfl
 |true=>
  rw [e1] at a1
  cases e2:fitB pv with
  |false=>
   rw [e2] at a2
   refine wk ?_
   exact retP rfl (by exact lw) rfl
  |true=>
   rw [e2] at a2
   by_cases h:pv.length≤8
   ·refine wk ?_
    exact retP rfl (by exact lw) (by simp [pbool,h])
   ·refine wk ?_
    exact retP rfl (by exact lw) (by simp [pbool,h])
theorem fitB_get {l:List (List Int)} (h:fitB l=true):(1≤l.length∧l.length≤4096)∧∀k,k < l.length→vecB (l.getD k default)=true∧(l.getD k default).length=(l.getD 0 default).length:=by
 simp only [fitB,Bool.and_eq_true,decide_eq_true_eq,Bool.not_eq_true',List.any_eq_false] at h
 refine ⟨⟨h.1,h.2.1⟩,fun k hk=>?_⟩
 have:=h.2.2 _ (getD_mem hk)
 simp [alikeB] at this
 exact ⟨this.2.2,this.1.symm⟩
def keysP (m:Int) (pv:List (List Int)) (v:List Int):List Int:=pv.map fun p=>keyV m p v
theorem keysP_take {m:Int} {pv:List (List Int)} {v:List Int} {k:Nat} (h:k < pv.length):(keysP m pv v).take (k+1)=(keysP m pv v).take k ++ [keyV m (pv.getD k default) v]:=by
 rw [List.take_add_one]
 congr 1
 simp [keysP,h]
theorem low_intsapp (n:Nat) (l:List Int) (x:Int) (own:Option TypeId):Low (.sl n 1 (l.map pint ++ [pint x]) own):=by
 refine .sl _ _ _ _ fun c hc=>?_
 rcases List.mem_append.1 hc with h|h
 ·obtain ⟨z,-,rfl⟩:=List.mem_map.1 h;exact .val _
 ·simp at h;subst h;exact .val _
theorem low_ints (n:Nat) (l:List Int) (own:Option TypeId):Low (.sl n 1 (l.map pint) own):=.sl _ _ _ _ fun c hc=>by
 obtain ⟨z,-,rfl⟩:=List.mem_map.1 hc;exact .val _
set_option maxRecDepth 10000 in
set_option maxHeartbeats 1000000 in
theorem pw_pkeys (m:Int) (pv:List (List Int)) (v:List Int) (hm:keyB m=true) (h1:pv.length≤1000000) (hp:∀k,k < pv.length→vecB (pv.getD k default)=true∧(pv.getD k default).length=v.length) (hv:vecB v=true):PCalls Tryz.prog 230 [pint m,pvecs pv,pints v] (· = pints (keysP m pv v)):=by
 have hlow:∀x,Low (pvecs x):=fun x=>(low_pvecs x).2 trivial
 obtain ⟨⟨v1,v2⟩,-⟩:=vecB_get hv
 refine PCalls.weak ?_
 refine pcalls_of_pw typeTab_ok Tryz.func230 rfl (by kernel_rfl) (by simp [low_pvecs,low_pint,low_pints]) (by simp [pvecs,pints,pint,PV.ownB]) (by rw [Tryz.ntmps230];simp) ?_
 rw [Tryz.ntmps230,Tryz.results230]
 refine wk ?_
 refine PW.loop (fun k:Nat=>((((((bot.put 0 (pint m)).put 2 (pints v)).put 7 (.sl k 1 (((keysP m pv v).take k).map pint) (some 3))).put 10 (pvecs pv)).put 11 (pint pv.length)).put 12 (pint k))) (fun k=>k≤pv.length) (fun k=>pv.length - k) 0 (by omega) ?_ ?_
 ·exact sb
 ·intro k hk
  by_cases hlt:k < pv.length
  ·obtain ⟨b1,b2⟩:=hp k hlt
   have p1:=pw_vecKey m (pv.getD k default) v hm b1 hv b2
   refine wk ?_
   refine loopP (k+1) (by omega) (by omega) ?_
   simp only [keysP_take hlt,List.map_append,List.map_cons,List.map_nil]
   have hl3:=low_intsapp (k+1) ((keysP m pv v).take k) (keyV m (pv.getD k default) v) (some 3)
   exact sb
  ·refine wk ?_
   have hkk:k=pv.length:=by omega
   refine retP (r:=.sl k 1 (((keysP m pv v).take k).map pint) none) rfl (low_ints _ _ _) ?_
   rw [List.take_of_length_le (by simp [keysP,hkk]),hkk,show pv.length=(keysP m pv v).length by simp [keysP]]
   exact Weak.refl _
end Go.Proofs.YtoamkpgaaanafaaGreat

/- pivot: Table, Shells. -/
namespace Go.Proofs.YtoamkpgaaanafaaGreat
set_option linter.unusedSimpArgs false
set_option linter.unusedVariables false
set_option linter.unnecessarySimpa false
open Go.RowKit
def tabB (m:Int) (pv l:List (List Int)):Bool:=pivotsB m pv && (fitB l && alikeB (pv.getD 0 default) (l.getD 0 default))
def tabL (m:Int) (pv l:List (List Int)):List (List Int):=l.map (keysP m pv)
def tabP (m:Int) (pv l:List (List Int)):List (List Int)×Int:=if tabB m pv l then (tabL m pv l,0) else ([],1)
theorem tabL_take {m:Int} {pv l:List (List Int)} {k:Nat} (h:k < l.length):(tabL m pv l).take (k+1)=(tabL m pv l).take k ++ [keysP m pv (l.getD k default)]:=by
 rw [List.take_add_one]
 congr 1
 simp [tabL,h]
theorem tabB_get {m:Int} {pv l:List (List Int)} (h:tabB m pv l=true):keyB m=true∧(1≤pv.length∧pv.length≤8)∧(1≤l.length∧l.length≤4096)∧(∀i k,i < l.length→k < pv.length→(vecB (pv.getD k default)=true∧(pv.getD k default).length=(l.getD i default).length))∧∀i,i < l.length→vecB (l.getD i default)=true:=by
 simp only [tabB,pivotsB,Bool.and_eq_true,decide_eq_true_eq] at h
 obtain ⟨⟨a1,a2,a3⟩,a4,a5⟩:=h
 obtain ⟨⟨b1,b2⟩,b3⟩:=fitB_get a2
 obtain ⟨c1,c3⟩:=fitB_get a4
 simp only [alikeB,Bool.and_eq_true,decide_eq_true_eq] at a5
 refine ⟨a1,⟨b1,a3⟩,c1,fun i k hi hk=>⟨(b3 k hk).1,?_⟩,fun i hi=>(c3 i hi).1⟩
 rw [(b3 k hk).2,(c3 i hi).2,a5.1]
theorem low_pvecL (l:List (List Int)):∀c∈l.map pints,Low c:=by
 intro c hc
 obtain ⟨z,-,rfl⟩:=List.mem_map.1 hc
 simp [low_pints]
set_option maxRecDepth 10000 in
set_option maxHeartbeats 2000000 in
theorem pw_table (m:Int) (pv l:List (List Int)) (h1:pv.length≤1000000) (h2:∀v∈pv,v.length≤1000000) (h3:l.length≤1000000) (h4:∀v∈l,v.length≤1000000):PCalls Tryz.prog 141 [pint m,pvecs pv,pvecs l] (· = .tup [pvecs (tabP m pv l).1,pint (tabP m pv l).2]):=by
 have hlow:∀x,Low (pvecs x):=fun x=>(low_pvecs x).2 trivial
 have a1:=pw_arePivots m pv h1 h2
 have a2:=pw_fit l h3 h4
 refine PCalls.weak ?_
 refine pcalls_of_pw typeTab_ok Tryz.func141 rfl (by kernel_rfl) (by simp [low_pvecs,low_pint]) (by simp [pvecs,pint,PV.ownB]) (by rw [Tryz.ntmps141];simp) ?_
 rw [Tryz.ntmps141,Tryz.results141]
 have hnil:Weak (.tup [.nilsl, .val (.int .i64 1)]) (.tup [pvecs [],pint 1]):=Weak.tup (.cons (Weak.nil 1) (.cons (Weak.refl _) .nil))
 cases e1:pivotsB m pv with
 |false=>
  rw [e1] at a1
  clear a2
  refine wk ?_
  refine retP (r:=.tup [.nilsl,pint 1]) rfl (by simp [low_tup,low_nilsl,low_pint]) ?_
  simp only [tabP,tabB,e1,Bool.false_and,Bool.false_eq_true,if_false]
  exact hnil
 |true=>
  rw [e1] at a1
  cases e2:fitB l with
  |false=>
   rw [e2] at a2
   refine wk ?_
   refine retP (r:=.tup [.nilsl,pint 1]) rfl (by simp [low_tup,low_nilsl,low_pint]) ?_
   simp only [tabP,tabB,e2,Bool.false_and,Bool.and_false,Bool.false_eq_true,if_false]
   exact hnil
  |true=>
   rw [e2] at a2
   have q1:0 < pv.length:=by
    simp only [pivotsB,Bool.and_eq_true] at e1
    have:=(fitB_get e1.2.1).1;omega
   have q2:0 < l.length:=(fitB_get e2).1.1
   have a3:=pw_alike (pv.getD 0 default) (l.getD 0 default) (h2 _ (getD_mem q1)) (h4 _ (getD_mem q2))
   cases e3:alikeB (pv.getD 0 default) (l.getD 0 default) with
   |false=>
    rw [e3] at a3
    refine wk ?_
    refine retP (r:=.tup [.nilsl,pint 1]) rfl (by simp [low_tup,low_nilsl,low_pint]) ?_
    simp only [tabP,tabB,e3,Bool.and_false,Bool.false_eq_true,if_false]
    exact hnil
   |true=>
    rw [e3] at a3
    have ht:tabB m pv l=true:=by simp only [tabB,e1,e2,e3,Bool.and_self]
    obtain ⟨g1,g2,g3,g4,g5⟩:=tabB_get ht
    unfold tabP
    rw [if_pos ht]
    refine wk ?_
    refine PW.loop (fun k:Nat=>((((((bot.put 0 (pint m)).put 1 (pvecs pv)).put 8 (.sl k 1 (((tabL m pv l).take k).map pints) (some 27))).put 30 (pvecs l)).put 31 (pint l.length)).put 32 (pint k))) (fun k=>k≤l.length) (fun k=>l.length - k) 0 (by omega) ?_ ?_
    ·exact sb
    ·intro k hk
     clear a1 a2 a3
     by_cases hlt:k < l.length
     ·have p1:=pw_pkeys m pv (l.getD k default) g1 h1 (fun j hj=>g4 k j hlt hj) (g5 k hlt)
      refine wk ?_
      refine loopP (k+1) (by omega) (by omega) ?_
      simp only [tabL_take hlt,List.map_append,List.map_cons,List.map_nil]
      have hl3:Low (.sl (k+1) 1 (((tabL m pv l).take k).map pints ++ [pints (keysP m pv (l.getD k default))]) (some 27)):=by
       refine .sl _ _ _ _ fun c hc=>?_
       rcases List.mem_append.1 hc with h|h
       ·exact low_pvecL _ c h
       ·simp at h;subst h;simp [low_pints]
      exact sb
     ·refine wk ?_
      have hkk:k=l.length:=by omega
      refine retP (r:=.tup [.sl k 1 (((tabL m pv l).take k).map pints) none,pint 0]) rfl (low_tup.2 (by simp only [List.mem_cons,List.not_mem_nil,or_false];rintro c (rfl|rfl);exact .sl _ _ _ _ (low_pvecL _);exact .val _)) ?_
      rw [List.take_of_length_le (by simp [tabL,hkk]),hkk,show l.length=(tabL m pv l).length by simp [tabL]]
      exact Weak.refl _
end Go.Proofs.YtoamkpgaaanafaaGreat

/- pivot: Shells, Low. -/
namespace Go.Proofs.YtoamkpgaaanafaaGreat
set_option linter.unusedSimpArgs false
set_option linter.unusedVariables false
set_option linter.unnecessarySimpa false
open Go.RowKit
def colI (T:List (List Int)) (k i:Nat):PShell:=(T.take i).foldl (fun s row=>withP s (row.getD k default)) ⟨(T.getD 0 default).getD k default,(T.getD 0 default).getD k default⟩
theorem colI_succ {T:List (List Int)} {k i:Nat} (h:i < T.length):colI T k (i+1)=withP (colI T k i) ((T.getD i default).getD k default):=by
 unfold colI
 rw [List.take_add_one,List.foldl_append,List.getElem?_eq_getElem h]
 simp [h]
def shellL (T:List (List Int)) (n:Nat):List PShell:=(List.range n).map fun k=>colI T k T.length
theorem shellL_take {T:List (List Int)} {n k:Nat} (h:k < n):(shellL T n).take (k+1)=(shellL T n).take k ++ [colI T k T.length]:=by
 rw [List.take_add_one]
 congr 1
 simp [shellL,h]
def shellP (m:Int) (pv l:List (List Int)):List PShell×Int:=if tabB m pv l then (shellL (tabL m pv l) pv.length,0) else ([],1)
set_option maxRecDepth 10000 in
set_option maxHeartbeats 2000000 in
theorem pw_shells (m:Int) (pv l:List (List Int)) (h1:pv.length≤1000000) (h2:∀v∈pv,v.length≤1000000) (h3:l.length≤1000000) (h4:∀v∈l,v.length≤1000000):PCalls Tryz.prog 59 [pint m,pvecs pv,pvecs l] (· = .tup [pshells (shellP m pv l).1,pint (shellP m pv l).2]):=by
 have hlow:∀x,Low (pvecs x):=fun x=>(low_pvecs x).2 trivial
 have a1:=pw_table m pv l h1 h2 h3 h4
 refine PCalls.weak ?_
 refine pcalls_of_pw typeTab_ok Tryz.func59 rfl (by kernel_rfl) (by simp [low_pvecs,low_pint]) (by simp [pvecs,pint,PV.ownB]) (by rw [Tryz.ntmps59];simp) ?_
 rw [Tryz.ntmps59,Tryz.results59]
 unfold shellP
 unfold tabP at a1
 cases e1:tabB m pv l with
 |false=>
  rw [if_neg (by simp [e1])] at a1
  refine wk ?_
  refine retP (r:=.tup [.nilsl,pint 1]) rfl (by simp [low_tup,low_nilsl,low_pint]) ?_
  exact Weak.tup (.cons (Weak.nil 2) (.cons (Weak.refl _) .nil))
 |true=>
  rw [if_pos e1] at a1
  rw [if_pos rfl]
  obtain ⟨-,g2,g3,-,-⟩:=tabB_get e1
  have hT:(tabL m pv l).length=l.length:=by simp [tabL]
  have hR:∀i,i < l.length→((tabL m pv l).getD i default).length=pv.length:=fun i hi=>by simp [tabL,keysP,hi]
  generalize tabL m pv l=T at *
  refine wk ?_
  refine PW.loop (fun k:Nat=>(((bot.put 8 (pvecs T)).put 10 (.sl k 2 (((shellL T pv.length).take k).flatMap pshL) (some 119))).put 26 (pint pv.length)).put 27 (pint k)) (fun k=>k≤pv.length) (fun k=>pv.length - k) 0 (by omega) ?_ ?_
  ·exact sb
  ·intro k hk
   clear a1
   by_cases hlt:k < pv.length
   ·have r0:=hR 0 (by omega)
    refine wk ?_
    refine PW.loop (fun i:Nat=>(((((((((bot.setb 8013 (pshL (colI T k i))).put 8 (pvecs T)).put 10 (.sl k 2 (((shellL T pv.length).take k).flatMap pshL) (some 119))).put 11 (pint k)).put 12 (.ptr 8013 0)).put 26 (pint pv.length)).put 27 (pint k)).put 43 (pvecs T)).put 44 (pint T.length)).put 45 (pint i)) (fun i=>i≤T.length) (fun i=>T.length - i) 0 (by omega) ?_ ?_
    ·have hl3:=low_shown k ((shellL T pv.length).take k) (some 119)
     exact sb
    ·intro i hi
     have hl4:=low_pshL (colI T k i)
     by_cases hit:i < T.length
     ·have ri:=hR i (by omega)
      have p1:=pw_with (colI T k i) ((T.getD i default).getD k default)
      rw [←colI_succ hit] at p1
      have hl5:=low_pshL (colI T k (i+1))
      unfold psh pshL at p1
      refine wk ?_
      refine loopP (i+1) (by omega) (by omega) ?_
      have hl3:=low_shown k ((shellL T pv.length).take k) (some 119)
      exact sb
     ·obtain rfl:i=T.length:=by omega
      refine wk ?_
      refine loopP (k+1) (by omega) (by omega) ?_
      simp only [shellL_take hlt,List.flatMap_append,List.flatMap_cons,List.flatMap_nil,List.append_nil]
      have hl3:=low_shapp (k+1) ((shellL T pv.length).take k) (colI T k T.length) (some 119)
      exact sb
   ·refine wk ?_
    have hkk:k=pv.length:=by omega
    refine retP (r:=.tup [.sl k 2 (((shellL T pv.length).take k).flatMap pshL) none,pint 0]) rfl (low_tup.2 (by simp only [List.mem_cons,List.not_mem_nil,or_false];rintro c (rfl|rfl);exact low_shown _ _ _;exact .val _)) ?_
    have hls:(shellL T pv.length).length=pv.length:=by simp [shellL]
    have e:PV.sl pv.length 2 ((shellL T pv.length).flatMap pshL) none=pshells (shellL T pv.length):=by unfold pshells;rw [hls]
    rw [List.take_of_length_le (by omega),hkk,e]
    exact Weak.refl _
def lowF (m:Int) (l:List PShell) (keys:List Int) (n:Nat):Int:=(List.range n).foldl (fun b k=>max b (gapM m (l.getD k default).lo (l.getD k default).hi (keys.getD k default))) 0
theorem lowF_succ (m:Int) (l:List PShell) (keys:List Int) (n:Nat):lowF m l keys (n+1)=max (lowF m l keys n) (gapM m (l.getD n default).lo (l.getD n default).hi (keys.getD n default)):=by
 unfold lowF;rw [List.range_succ,List.foldl_append];rfl
def askB (m:Int) (l:List PShell) (keys:List Int):Bool:=keyB m && (shellsB l && (decide (keys.length=l.length) && keys.all (hasP allP)))
def lowP (m:Int) (l:List PShell) (keys:List Int):Int×Int:=if askB m l keys then (lowF m l keys l.length,0) else (0,1)
set_option maxRecDepth 10000 in
theorem pw_low1 (m b:Int) (s:PShell) (k:Int) (hs:shellB s=true) (hk:hasP allP k=true):PCalls Tryz.prog 153 [pint b,psh s,pint k, .ep [pint m] 0] (· = pint (max b (gapM m s.lo s.hi k))):=by
 have hk2:0≤k∧k≤134217728:=by simp only [hasP,Bool.and_eq_true,decide_eq_true_eq] at hk;exact hk
 have h:=pw_gap m s.lo s.hi k hk2 (shellB_iff.1 hs)
 have hl:=low_pshL s
 refine pcalls_of_pw typeTab_ok Tryz.func153 rfl (by kernel_rfl) (by simp [low_pint,low_psh,low_ep]) (by simp [pint,psh,PV.ownB]) (by rw [Tryz.ntmps153];simp) ?_
 rw [Tryz.ntmps153,Tryz.results153]
 unfold psh pshL at *
 refine wk ?_
 refine retP rfl (by exact lw) ?_
 simp only [if_true,pint]
 congr 2;grind
set_option maxRecDepth 10000 in
set_option maxHeartbeats 2000000 in
theorem pw_bound (m:Int) (l:List PShell) (keys:List Int) (h1:l.length≤1000000) (h2:keys.length≤1000000):PCalls Tryz.prog 152 [pint m,pshells l,pints keys,pint 0, .fn 153 [.ep [pint m] 0]] (· = .tup [pint (lowP m l keys).1,pint (lowP m l keys).2]):=by
 have hlow:∀x,Low (pshells x):=fun x=>(low_pshells x).2 trivial
 have hlf:Low (.fn 153 [.ep [pint m] 0]):=low_clo _ _
 have a1:=pw_isMetric m
 have a2:=pw_shValid l h1
 refine pcalls_of_pw typeTab_ok Tryz.func152 rfl (by kernel_rfl) (by simp [low_pshells,low_pint,low_pints,hlf]) (by simp [pshells,pints,pint,PV.ownB]) (by rw [Tryz.ntmps152];simp) ?_
 rw [Tryz.ntmps152,Tryz.results152]
 cases e1:keyB m with
 |false=>
  rw [e1] at a1
  clear a2
  refine wk ?_
  refine retP (r:=.tup [pint 0,pint 1]) rfl (by simp [low_tup,low_pint]) ?_
  simp only [lowP,askB,e1,Bool.false_and,Bool.false_eq_true,if_false]
 |true=>
  rw [e1] at a1
  cases e2:shellsB l with
  |false=>
   rw [e2] at a2
   refine wk ?_
   refine retP (r:=.tup [pint 0,pint 1]) rfl (by simp [low_tup,low_pint]) ?_
   simp only [lowP,askB,e2,Bool.false_and,Bool.and_false,Bool.false_eq_true,if_false]
  |true=>
   rw [e2] at a2
   obtain ⟨l8,hsh⟩:=shellsB_get e2
   by_cases e3:keys.length=l.length
   ·refine wk ?_
    refine PW.loop (fun k:Nat=>((((((bot.put 2 (pints keys)).put 4 (.fn 153 [.ep [pint m] 0])).put 12 (pint (lowF m l keys k))).put 31 (pshells l)).put 32 (pint l.length)).put 33 (pint k))) (fun k=>k≤l.length∧∀j,j < k→hasP allP (keys.getD j default)=true) (fun k=>l.length - k) 0 ⟨by omega,by simp⟩ ?_ ?_
    ·exact sb
    ·rintro k ⟨hk,ha⟩
     clear a1 a2
     by_cases hlt:k < l.length
     ·have p0:=pw_all
      have p1:=pw_has allP (keys.getD k default)
      cases e4:hasP allP (keys.getD k default) with
      |false=>
       rw [e4] at p1
       refine wk ?_
       refine retP (r:=.tup [pint 0,pint 1]) rfl (by simp [low_tup,low_pint]) ?_
       have:askB m l keys=false:=by
        have:keys.all (hasP allP)=false:=by
         rw [List.all_eq_false];exact ⟨keys.getD k default,getD_mem (by omega),by rw [e4];decide⟩
        simp only [askB,this,Bool.and_false]
       simp only [lowP,this,Bool.false_eq_true,if_false]
      |true=>
       rw [e4] at p1
       have p2:=pw_low1 m (lowF m l keys k) (l.getD k default) (keys.getD k default) (hsh k hlt) e4
       rw [←lowF_succ] at p2
       refine wk ?_
       have hI:k+1≤l.length∧∀j,j < k+1→hasP allP (keys.getD j default)=true:=⟨by omega,fun j hj=>by
        rcases Nat.lt_succ_iff_lt_or_eq.1 hj with h|h
        ·exact ha j h
        ·rw [h];exact e4⟩
       refine loopP (k+1) ?_ ?_ ?_
       ·exact hI
       ·omega
       exact sb
     ·refine wk ?_
      have hkk:k=l.length:=by omega
      refine retP (r:=.tup [pint (lowF m l keys k),pint 0]) rfl (by simp [low_tup,low_pint]) ?_
      have:askB m l keys=true:=by
       have:keys.all (hasP allP)=true:=by
        rw [List.all_eq_true]
        intro x hx
        obtain ⟨j,hj,rfl⟩:=List.getElem_of_mem hx
        have:=ha j (by omega)
        rwa [List.getD_eq_getElem?_getD,List.getElem?_eq_getElem hj] at this
       simp only [askB,this,e1,e2,e3,decide_true,Bool.and_self]
      rw [lowP,this,if_pos rfl,hkk]
   ·refine wk ?_
    refine retP (r:=.tup [pint 0,pint 1]) rfl (by simp [low_tup,low_pint]) ?_
    simp only [lowP,askB,e3,decide_false,Bool.false_and,Bool.and_false,Bool.false_eq_true,if_false]
set_option maxRecDepth 10000 in
theorem pw_pLow (m:Int) (l:List PShell) (keys:List Int) (h1:l.length≤1000000) (h2:keys.length≤1000000):PCalls Tryz.prog 77 [pint m,pshells l,pints keys] (· = .tup [pint (lowP m l keys).1,pint (lowP m l keys).2]):=by
 have hlow:∀x,Low (pshells x):=fun x=>(low_pshells x).2 trivial
 have hlf:Low (.fn 153 [.ep [pint m] 0]):=low_clo _ _
 have a1:=pw_bound m l keys h1 h2
 refine pcalls_of_pw typeTab_ok Tryz.func77 rfl (by kernel_rfl) (by simp [low_pshells,low_pint,low_pints]) (by simp [pshells,pints,pint,PV.ownB]) (by rw [Tryz.ntmps77];simp) ?_
 rw [Tryz.ntmps77,Tryz.results77]
 refine PW.seq ?_
 refine PW.region typeTab_ok (by kernel_rfl) ?_
 refine wg ?_
 refine PW.freezeP (id:=0) (s:=3) (off:=0) (σ':=(bot.put 1 (pshells l)).put 2 (pints keys)) rfl rfl (fun c hc=>by simp only [List.mem_cons,List.not_mem_nil,or_false] at hc;subst hc;exact .val _) (by exact sbr0) rfl ?_
 refine wk ?_
 exact retP (r:=.tup [pint (lowP m l keys).1,pint (lowP m l keys).2]) rfl (by simp [low_tup,low_pint]) rfl
end Go.Proofs.YtoamkpgaaanafaaGreat

/- zone: isWithin, isField, Valid. -/
namespace Go.Proofs.YtoamkpgaaanafaaGreat
set_option linter.unusedSimpArgs false
set_option linter.unusedVariables false
set_option linter.unnecessarySimpa false
open Go.RowKit
instance:Inhabited PDef:=⟨⟨ByteArray.empty,0,0,0,[]⟩⟩
structure PField where
 has:Int
 lo:Int
 hi:Int
 words:List ByteArray
 deriving Inhabited
def pfldL (f:PField):List PV := [pint f.has,pint f.lo,pint f.hi,pstrs f.words]
def pfld (f:PField):PV:=.agg (pfldL f)
def pflds (l:List PField):PV:=.sl l.length 4 (l.flatMap pfldL) none
theorem low_pfldL (f:PField):∀c∈pfldL f,Low c:=by
 intro c hc
 simp only [pfldL,List.mem_cons,List.not_mem_nil,or_false] at hc
 rcases hc with rfl|rfl|rfl|rfl
 ·exact .val _
 ·exact .val _
 ·exact .val _
 ·exact (low_pstrs _).2 trivial
theorem low_pfld (f:PField):Low (pfld f)↔True:=⟨fun _=>trivial,fun _=>.agg _ (low_pfldL f)⟩
theorem low_pflds (l:List PField):Low (pflds l)↔True:=by
 simp only [pflds,low_sl,iff_true]
 intro c hc
 obtain ⟨z,-,hz⟩:=List.mem_flatMap.1 hc
 exact low_pfldL z c hz
structure PSum where
 count:Int
 box:PBox
 shells:List PShell
 fromLo:Int
 fromHi:Int
 toHi:Int
 bornLo:Int
 bornHi:Int
 fields:List PField
 deriving Inhabited
def psumL (z:PSum):List PV := [pint z.count,pints z.box.lo,pints z.box.hi,pshells z.shells,pint z.fromLo,pint z.fromHi,pint z.toHi,pint z.bornLo,pint z.bornHi,pflds z.fields]
def psum (z:PSum):PV:=.agg (psumL z)
theorem low_psumL (z:PSum):∀c∈psumL z,Low c:=by
 intro c hc
 simp only [psumL,List.mem_cons,List.not_mem_nil,or_false] at hc
 rcases hc with rfl|rfl|rfl|rfl|rfl|rfl|rfl|rfl|rfl|rfl
 ·exact .val _
 ·exact (low_pints _).2 trivial
 ·exact (low_pints _).2 trivial
 ·exact (low_pshells _).2 trivial
 ·exact .val _
 ·exact .val _
 ·exact .val _
 ·exact .val _
 ·exact .val _
 ·exact (low_pflds _).2 trivial
theorem low_psum (z:PSum):Low (psum z)↔True:=⟨fun _=>trivial,fun _=>.agg _ (low_psumL z)⟩
theorem pc_containsS (l:List ByteArray) (s:ByteArray) (hl:l.length≤1000000000):PCalls Tryz.prog 73 [pstrs l,pstr s] (· = pbool (hasB l s)):=
 pcalls2 (by kernel_rfl) fun Φ μ w v u himm hr hr2=>by
  obtain ⟨rfl,-⟩:=hr2.val_inv
  exact (slicesContainsS v l s w (strs_of_rep himm hr) hl).mono (by
   rintro e w' ⟨rfl,hb⟩
   exact post_flat himm (.val _ rfl) rfl rfl (by first|exact hb|exact hb.below _|(subst hb;exact Below.refl _ _)))
def withinB (n lo hi:Int):Bool:=decide (lo≤n) && decide (n≤hi)
theorem pw_isWithin (n lo hi:Int):PCalls Tryz.prog 64 [pint n,pint lo,pint hi] (· = pbool (withinB n lo hi)):=by
 refine pcalls_of_pw typeTab_ok Tryz.func64 rfl (by kernel_rfl) (by simp [low_pint]) (by simp [pint,PV.ownB]) (by rw [Tryz.ntmps64];simp) ?_
 rw [Tryz.ntmps64,Tryz.results64]
 unfold withinB
 by_cases h1:lo≤n
 ·by_cases h2:n≤hi
  ·refine wk ?_
   exact retP rfl (by exact lw) (by simp [pbool,h1,h2])
  ·refine wk ?_
   exact retP rfl (by exact lw) (by simp [pbool,h2])
 ·refine wk ?_
  exact retP rfl (by exact lw) (by simp [pbool,h1])
def wordOK (d:PDef) (w:List ByteArray) (i:Nat):Bool:=hasB d.words (w.getD i default) && (decide (i=0) || !leqB (w.getD i default) (w.getD (i - 1) default))
def fieldB (d:PDef) (f:PField) (count:Int):Bool:=
 if withinB f.has 0 count=false then false
 else if 0 < f.has∧d.kind=1 then withinB f.lo d.lo f.hi && (decide (f.hi≤d.hi) && decide (f.words.length=0))
 else if f.lo≠0∨f.hi≠0∨decide (0 < f.has)≠decide (0 < f.words.length) then false
 else (List.range f.words.length).all (wordOK d f.words)
theorem low_pdef (d:PDef):Low (.agg (pdefL d)):=by simp [low_agg,pdefL,low_pint,low_pstr,low_pstrs]
set_option maxRecDepth 10000 in
set_option maxHeartbeats 2000000 in
theorem pw_isField (d:PDef) (f:PField) (count:Int) (h1:d.words.length≤1000000) (h2:f.words.length≤1000000):PCalls Tryz.prog 67 [.agg (pdefL d),pfld f,pint count] (· = pbool (fieldB d f count)):=by
 have hw:=pw_isWithin f.has 0 count
 have hd1:=low_pdefL d
 have hf1:=low_pfldL f
 refine pcalls_of_pw typeTab_ok Tryz.func67 rfl (by kernel_rfl) (by simp [low_pint,low_pfld,low_pdef]) (by simp [pfld,pfldL,pdefL,pint,PV.ownB]) (by rw [Tryz.ntmps67];simp) ?_
 rw [Tryz.ntmps67,Tryz.results67]
 unfold fieldB
 unfold pfld pfldL pdefL at *
 cases e1:withinB f.has 0 count with
 |false=>
  rw [e1] at hw
  refine wk ?_
  exact retP rfl (by exact lw) rfl
 |true=>
  rw [e1] at hw
  rw [if_neg (by simp)]
  by_cases e2:0 < f.has∧d.kind=1
  ·obtain ⟨e3,e4⟩:=e2
   have hw2:=pw_isWithin f.lo d.lo f.hi
   rw [if_pos ⟨e3,e4⟩]
   cases e5:withinB f.lo d.lo f.hi with
   |false=>
    rw [e5] at hw2
    refine wk ?_
    exact retP rfl (by exact lw) rfl
   |true=>
    rw [e5] at hw2
    by_cases e6:f.hi≤d.hi
    ·by_cases e7:f.words.length=0
     ·refine wk ?_
      exact retP rfl (by exact lw) (by simp [pbool,e6,e7])
     ·refine wk ?_
      exact retP rfl (by exact lw) (by simp only [pbool,decide_eq_false e7,Bool.and_false])
    ·refine wk ?_
     exact retP rfl (by exact lw) (by simp [pbool,e6])
  ·rw [if_neg e2]
   have hall:∀k,wordOK d f.words k=false→k < f.words.length→(List.range f.words.length).all (wordOK d f.words)=false:=fun k h hk=>by
    rw [List.all_eq_false];exact ⟨k,by simp [hk],by rw [h];decide⟩
   have e2' : (0 < f.has∧¬d.kind=1)∨¬0 < f.has:=by omega
   rcases e2' with ⟨e3,e4⟩|e3
   all_goals
    by_cases e5:f.lo=0
    ·by_cases e6:f.hi=0
     ·by_cases e7:decide (0 < f.has)=decide (0 < f.words.length)
      ·rw [if_neg (by simp [e5,e6,e7])]
       have e8:(0 < f.has∧0 < f.words.length)∨(¬0 < f.has∧¬0 < f.words.length):=by
        by_cases q1:0 < f.has<;>by_cases q2:0 < f.words.length<;>simp [q1,q2] at e7 ⊢
       rcases e8 with ⟨q1,q2⟩|⟨q1,q2⟩
       ·first
        |omega
        |refine wk ?_
         refine PW.loop (fun k:Nat=>(((((bot.setb 0 (pdefL d)).setb 1 (pfldL f)).put 3 (.ptr 0 0)).put 4 (.ptr 1 0)).put 64 (pstrs f.words) |>.put 65 (pint f.words.length)).put 66 (pint k)) (fun k=>k≤f.words.length∧∀j,j < k→wordOK d f.words j=true) (fun k=>f.words.length - k) 0 ⟨by omega,by simp⟩ ?_ ?_
         ·exact sb
         ·rintro k ⟨hk,ha⟩
          clear hw
          by_cases hlt:k < f.words.length
          ·have hc:=pc_containsS d.words (f.words.getD k default) (by omega)
           cases c1:hasB d.words (f.words.getD k default) with
           |false=>
            rw [c1] at hc
            refine wk ?_
            refine retP rfl (by exact lw) ?_
            rw [hall k (by simp only [wordOK,c1,Bool.false_and]) hlt];rfl
           |true=>
            rw [c1] at hc
            by_cases hk0:k=0
            ·refine wk ?_
             have hI:k+1≤f.words.length∧∀j,j < k+1→wordOK d f.words j=true:=⟨by omega,fun j hj=>by
              obtain rfl:j=k:=by omega
              simp only [wordOK,c1,decide_eq_true hk0,Bool.true_or,Bool.and_self]⟩
             refine loopP (k+1) ?_ ?_ ?_
             ·exact hI
             ·omega
             ·exact sb
            ·have ek:((k:Int) - 1).toNat=k - 1:=by omega
             cases c2:leqB (f.words.getD k default) (f.words.getD (((k:Int) - 1).toNat) default) with
             |true=>
              refine wk ?_
              refine retP rfl (by exact lw) ?_
              rw [ek] at c2
              rw [hall k (by simp only [wordOK,c1,c2,decide_eq_false hk0];rfl) hlt];rfl
             |false=>
              refine wk ?_
              rw [ek] at c2
              have hI:k+1≤f.words.length∧∀j,j < k+1→wordOK d f.words j=true:=⟨by omega,fun j hj=>by
               rcases Nat.lt_succ_iff_lt_or_eq.1 hj with h|h
               ·exact ha j h
               ·rw [h];simp only [wordOK,c1,c2,Bool.not_false,Bool.or_true,Bool.and_self]⟩
              refine loopP (k+1) ?_ ?_ ?_
              ·exact hI
              ·omega
              ·exact sb
          ·refine wk ?_
           refine retP rfl (by exact lw) ?_
           have:(List.range f.words.length).all (wordOK d f.words)=true:=by
            rw [List.all_eq_true];intro j hj;exact ha j (by simp at hj;omega)
           rw [this];rfl
       ·first
        |omega
        |refine wk ?_
         refine PW.loop (fun k:Nat=>(((((bot.setb 0 (pdefL d)).setb 1 (pfldL f)).put 3 (.ptr 0 0)).put 4 (.ptr 1 0)).put 64 (pstrs f.words) |>.put 65 (pint f.words.length)).put 66 (pint k)) (fun k=>k≤f.words.length∧∀j,j < k→wordOK d f.words j=true) (fun k=>f.words.length - k) 0 ⟨by omega,by simp⟩ ?_ ?_
         ·exact sb
         ·rintro k ⟨hk,ha⟩
          clear hw
          have hlt:¬k < f.words.length:=by omega
          ·refine wk ?_
           refine retP rfl (by exact lw) ?_
           have:(List.range f.words.length).all (wordOK d f.words)=true:=by
            rw [List.all_eq_true];intro j hj;exact ha j (by simp at hj;omega)
           rw [this];rfl
      ·rw [if_pos (.inr (.inr e7))]
       have e8:(0 < f.has∧¬0 < f.words.length)∨(¬0 < f.has∧0 < f.words.length):=by
        by_cases q1:0 < f.has<;>by_cases q2:0 < f.words.length<;>simp [q1,q2] at e7 ⊢
       rcases e8 with ⟨q1,q2⟩|⟨q1,q2⟩
       all_goals
        first
        |omega
        |refine wk ?_
         exact retP rfl (by exact lw) rfl
     ·rw [if_pos (.inr (.inl e6))]
      refine wk ?_
      exact retP rfl (by exact lw) rfl
    ·rw [if_pos (.inl e5)]
     refine wk ?_
     exact retP rfl (by exact lw) rfl
end Go.Proofs.YtoamkpgaaanafaaGreat

/- zone: Valid. -/
namespace Go.Proofs.YtoamkpgaaanafaaGreat
set_option linter.unusedSimpArgs false
set_option linter.unusedVariables false
set_option linter.unnecessarySimpa false
open Go.RowKit
def sumB (s:PSchema) (n:Int) (z:PSum):Bool:=
 withinB z.count 1 4096 && (boxB z.box && (decide ((z.box.lo.length:Int)=s.dims) && (decide ((z.shells.length:Int)=n) && (shellsB z.shells && (decide (z.fields.length=s.defs.length) &&
  (withinB z.fromLo 0 z.fromHi && (decide (z.fromHi≤1048576) && (withinB z.toHi (z.fromLo+1) 1048577 && (withinB z.bornLo 1 z.bornHi && (decide (z.bornHi≤1073741824) &&
   (List.range s.defs.length).all fun k=>fieldB (s.defs.getD k default) (z.fields.getD k default) z.count))))))))))
theorem withinB_iff {n lo hi:Int} : withinB n lo hi=true↔lo≤n∧n≤hi:=by simp [withinB]
def SmallZ (z:PSum):Prop:=z.box.lo.length≤1000000∧z.box.hi.length≤1000000∧z.shells.length≤1000000∧z.fields.length≤1000000∧∀k,(z.fields.getD k default).words.length≤1000000
set_option maxRecDepth 10000 in
set_option maxHeartbeats 8000000 in
theorem pw_sumValid (s:PSchema) (n:Int) (z:PSum) (hz:SmallZ z) (h1:s.defs.length≤1000000) (h2:∀k,(s.defs.getD k default).words.length≤1000000):PCalls Tryz.prog 19 [pschema s,pint n,psum z] (· = pbool (sumB s n z)):=by
 obtain ⟨z1,z2,z3,z4,z5⟩:=hz
 have c1:=pw_isWithin z.count 1 4096
 have c2:=pw_boxValid z.box (by omega) (by omega)
 have c3:=pw_shValid z.shells (by omega)
 have hlz:=low_psumL z
 have hls:=low_schCells s
 have f:∀b,sumB s n z=b→pbool b=pbool (sumB s n z):=fun b h=>by rw [h]
 refine pcalls_of_pw typeTab_ok Tryz.func19 rfl (by kernel_rfl) (by simp [low_pint,low_psum,low_pschema]) (by simp [psum,psumL,pschema,pint,PV.ownB]) (by rw [Tryz.ntmps19];simp) ?_
 rw [Tryz.ntmps19,Tryz.results19]
 unfold psum psumL at *
 unfold pbox pboxL at c2
 cases e0:withinB z.count 1 4096 with
 |false=>
  rw [e0] at c1
  refine wk ?_
  exact retP rfl (by exact lw) (f _ (by simp only [sumB,e0,Bool.false_and,Bool.and_false]))
 |true=>
  rw [e0] at c1
  cases e1:boxB z.box with
  |false=>
   rw [e1] at c2
   refine wk ?_
   exact retP rfl (by exact lw) (f _ (by simp only [sumB,e1,Bool.false_and,Bool.and_false]))
  |true=>
   rw [e1] at c2
   by_cases e2:(z.box.lo.length:Int)=s.dims
   rotate_left
   ·refine wk ?_
    exact retP rfl (by exact lw) (f _ (by simp only [sumB,decide_eq_false e2,Bool.false_and,Bool.and_false]))
   by_cases e3:(z.shells.length:Int)=n
   rotate_left
   ·refine wk ?_
    exact retP rfl (by exact lw) (f _ (by simp only [sumB,decide_eq_false e3,Bool.false_and,Bool.and_false]))
   cases e4:shellsB z.shells with
   |false=>
    rw [e4] at c3
    refine wk ?_
    exact retP rfl (by exact lw) (f _ (by simp only [sumB,e4,Bool.false_and,Bool.and_false]))
   |true=>
    rw [e4] at c3
    by_cases e5:z.fields.length=s.defs.length
    rotate_left
    ·refine wk ?_
     exact retP rfl (by exact lw) (f _ (by simp only [sumB,decide_eq_false e5,Bool.false_and,Bool.and_false]))
    have w6:=pw_isWithin z.fromLo 0 z.fromHi
    cases e6:withinB z.fromLo 0 z.fromHi with
    |false=>
     rw [e6] at w6
     refine wk ?_
     exact retP rfl (by exact lw) (f _ (by simp only [sumB,e6,Bool.false_and,Bool.and_false]))
    |true=>
     rw [e6] at w6
     obtain ⟨g1,g2⟩:=withinB_iff.1 e6
     by_cases e7:z.fromHi≤1048576
     rotate_left
     ·refine wk ?_
      exact retP rfl (by exact lw) (f _ (by simp only [sumB,decide_eq_false e7,Bool.false_and,Bool.and_false]))
     have w8:=pw_isWithin z.toHi (z.fromLo+1) 1048577
     cases e8:withinB z.toHi (z.fromLo+1) 1048577 with
     |false=>
      rw [e8] at w8
      refine wk ?_
      exact retP rfl (by exact lw) (f _ (by simp only [sumB,e8,Bool.false_and,Bool.and_false]))
     |true=>
      rw [e8] at w8
      have w9:=pw_isWithin z.bornLo 1 z.bornHi
      cases e9:withinB z.bornLo 1 z.bornHi with
      |false=>
       rw [e9] at w9
       refine wk ?_
       exact retP rfl (by exact lw) (f _ (by simp only [sumB,e9,Bool.false_and,Bool.and_false]))
      |true=>
       rw [e9] at w9
       by_cases e10:z.bornHi≤1073741824
       rotate_left
       ·refine wk ?_
        exact retP rfl (by exact lw) (f _ (by simp only [sumB,decide_eq_false e10,Bool.false_and,Bool.and_false]))
       have hall:∀k,fieldB (s.defs.getD k default) (z.fields.getD k default) z.count=false→k < s.defs.length→sumB s n z=false:=fun k h hk=>by
        have:((List.range s.defs.length).all fun k=>fieldB (s.defs.getD k default) (z.fields.getD k default) z.count)=false:=by
         rw [List.all_eq_false];exact ⟨k,by simp [hk],by rw [h];decide⟩
        simp only [sumB,this,Bool.and_false]
       refine wk ?_
       clear c1 c2 c3 w6 w8 w9
       refine PW.loop (fun k:Nat=>((((((bot.setb 0 (schCellsP s)).setb 1 (psumL z)).put 3 (.ptr 0 0)).put 5 (.ptr 1 0)).put 84 (pdefs s.defs)).put 85 (pint s.defs.length)).put 86 (pint k)) (fun k=>k≤s.defs.length∧∀j,j < k→fieldB (s.defs.getD j default) (z.fields.getD j default) z.count=true) (fun k=>s.defs.length - k) 0 ⟨by omega,by simp⟩ ?_ ?_
       ·exact sb
       ·rintro k ⟨hk,ha⟩
        by_cases hlt:k < s.defs.length
        ·have p1:=pw_isField (s.defs.getD k default) (z.fields.getD k default) z.count (h2 k) (z5 k)
         have hd1:=low_pdefL (s.defs.getD k default)
         cases e20:fieldB (s.defs.getD k default) (z.fields.getD k default) z.count with
         |false=>
          rw [e20] at p1
          refine wk ?_
          refine retP rfl (by exact lw) (f _ ?_)
          exact hall k e20 hlt
         |true=>
          rw [e20] at p1
          refine wk ?_
          have hI:k+1≤s.defs.length∧∀j,j < k+1→fieldB (s.defs.getD j default) (z.fields.getD j default) z.count=true:=⟨by omega,fun j hj=>by
           rcases Nat.lt_succ_iff_lt_or_eq.1 hj with h|h
           ·exact ha j h
           ·rw [h];exact e20⟩
          refine loopP (k+1) ?_ ?_ ?_
          ·exact hI
          ·omega
          ·exact sb
        ·refine wk ?_
         refine retP rfl (by exact lw) (f _ ?_)
         have:((List.range s.defs.length).all fun k=>fieldB (s.defs.getD k default) (z.fields.getD k default) z.count)=true:=by
          rw [List.all_eq_true];intro j hj;exact ha j (by simp at hj;omega)
         simp only [sumB,this,e0,e1,e2,e3,e4,e5,e6,e7,e8,e9,e10,decide_true,Bool.and_self]
end Go.Proofs.YtoamkpgaaanafaaGreat

/- zone: fields (an iterator). -/
namespace Go.Proofs.YtoamkpgaaanafaaGreat
set_option linter.unusedSimpArgs false
set_option linter.unusedVariables false
set_option linter.unnecessarySimpa false
open Go.RowKit
def fldR (s:PSchema) (a b:PSum) (k:Nat):List PV := [.agg (pdefL (s.defs.getD k default)), .agg (pfldL (a.fields.getD k default) ++ pfldL (b.fields.getD k default))]
def fldsL (s:PSchema) (a b:PSum):List (List PV):=(List.range s.defs.length).map (fldR s a b)
theorem fldsL_len (s:PSchema) (a b:PSum):(fldsL s a b).length=s.defs.length:=by simp [fldsL]
theorem fldsL_take {s:PSchema} {a b:PSum} {k:Nat} (h:k < s.defs.length):(fldsL s a b).take (k+1)=(fldsL s a b).take k ++ [fldR s a b k]:=by
 rw [List.take_add_one]
 congr 1
 simp [fldsL,h]
theorem low_fldR (s:PSchema) (a b:PSum) (k:Nat):∀c∈fldR s a b k,Low c:=by
 intro c hc
 simp only [fldR,List.mem_cons,List.not_mem_nil,or_false] at hc
 rcases hc with rfl|rfl
 ·exact low_pdef _
 ·refine .agg _ fun c hc=>?_
  rcases List.mem_append.1 hc with h|h<;>exact low_pfldL _ c h
set_option maxRecDepth 10000 in
set_option maxHeartbeats 2000000 in
theorem it_fields (s:PSchema) (a b:PSum) (h0:s.defs.length≤1000000) (h1:s.defs.length≤a.fields.length) (h2:s.defs.length≤b.fields.length) (h3:a.fields.length≤1000000) (h4:b.fields.length≤1000000) :
  ItSpec Tryz.prog 184 [.ep (schCellsP s) 0, .ep (psumL a) 0, .ep (psumL b) 0] (Part (fldsL s a b)) (· = fldsL s a b):=by
 have hlow1:Low (.ep (schCellsP s) 0):=.ep _ _ (low_schCells s)
 have hlow2:Low (.ep (psumL a) 0):=.ep _ _ (low_psumL a)
 have hlow3:Low (.ep (psumL b) 0):=.ep _ _ (low_psumL b)
 refine itspec_of_pwj typeTab_ok Tryz.func184 rfl (by kernel_rfl) (by simp [hlow1,hlow2,hlow3]) (by simp [PV.ownB]) (by rw [Tryz.ntmps184];simp) ?_
 intro E Φ0 W l hgiv hy hr
 rw [Tryz.ntmps184,Tryz.results184]
 refine jw0 ?_
 refine PWJ.of_pw ?_
 refine wk ?_
 refine jw0 ?_
 refine PWJ.loop (fun k:Nat=>(((((((bot.put 0 (.val (.func (.yield l) #[] #[]))).put 1 (.ep (schCellsP s) 0)).put 2 (.ep (psumL a) 0)).put 3 (.ep (psumL b) 0)).put 8 (pdefs s.defs)).put 9 (pint s.defs.length)).put 10 (pint k))) (fun k=>some ((fldsL s a b).take k)) (fun k=>k≤s.defs.length) (fun k=>s.defs.length - k) 0 (by omega) ?_ (by simp) ?_
 ·exact sb
 ·intro k hk
  by_cases hlt:k < s.defs.length
  ·refine jw0 ?_
   refine PWJ.of_pw ?_
   refine wk ?_
   refine jw0 ?_
   refine PWJ.of_pw ?_
   refine wk ?_
   refine jw0 ?_
   have hlr:=low_fldR s a b k
   refine PWJ.drawN 13 (x:=fldR s a b k) (d:=28) typeTab_ok (by kernel_rfl) hgiv hy hr (by kernel_rfl) (by kernel_rfl) (by rfl) (by rfl) ?_
   refine wk ?_
   refine ⟨⟨rfl,by decide,⟨_,_,rfl,rfl,rfl,rfl⟩,rfl,hlr,⟨k+1,(fldsL_take hlt).symm⟩,fun id bs e=>?_,fun id es c e=>(by cases e)⟩,fun b' => ?_⟩
   ·intro c hc
    by_cases hid:id=2003
    ·subst hid
     cases e
     simp only [List.mem_cons,List.not_mem_nil,or_false] at hc
     rcases hc with rfl|rfl|rfl|rfl|rfl<;>rfl
    ·have hb:Nat.beq id 2003=false:=by rw [←Bool.not_eq_true,Nat.beq_eq];exact hid
     simp [PS.setb,PS.put,bot,upd,hb] at e
   cases b' with
   |true=>
    refine wk ?_
    refine jw0 ?_
    refine PWJ.of_pw ?_
    refine wk ?_
    refine jw0 ?_
    refine loopJ (k+1) (by omega) (by omega) ?_ ?_
    ·exact sb
    ·simp only [if_true];rw [fldsL_take hlt]
   |false=>
    refine wk ?_
    refine jw0 ?_
    exact ⟨⟨_,rfl⟩,fun xs e=>by simp at e⟩
  ·refine jw0 ?_
   refine PWJ.of_pw ?_
   refine wk ?_
   refine jw0 ?_
   exact ⟨⟨_,rfl⟩,fun xs e=>by simp at e;rw [←e];exact List.take_of_length_le (by rw [fldsL_len];omega)⟩
end Go.Proofs.YtoamkpgaaanafaaGreat

/- zone: Within. -/
namespace Go.Proofs.YtoamkpgaaanafaaGreat
set_option linter.unusedSimpArgs false
set_option linter.unusedVariables false
set_option linter.unnecessarySimpa false
open Go.RowKit
set_option maxRecDepth 10000 in
theorem pw_fields (s:PSchema) (a b:PSum):PCalls Tryz.prog 102 [pschema s,psum a,psum b] (· = .fn 184 [.ep (schCellsP s) 0, .ep (psumL a) 0, .ep (psumL b) 0]):=by
 have hlow1:Low (.ep (schCellsP s) 0):=.ep _ _ (low_schCells s)
 have hlow2:Low (.ep (psumL a) 0):=.ep _ _ (low_psumL a)
 have hlow3:Low (.ep (psumL b) 0):=.ep _ _ (low_psumL b)
 have hla:=low_psumL a
 have hlb:=low_psumL b
 refine pcalls_of_pw typeTab_ok Tryz.func102 rfl (by kernel_rfl) (by simp [low_pschema,low_psum]) (by simp [pschema,psum,PV.ownB]) (by rw [Tryz.ntmps102];simp) ?_
 rw [Tryz.ntmps102,Tryz.results102]
 refine PW.seq ?_
 refine PW.region typeTab_ok (by kernel_rfl) ?_
 refine wg ?_
 refine PW.freezeP (id:=0) (s:=3) (off:=0) (σ':=(((bot.setb 1 (psumL a)).setb 2 (psumL b)).put 4 (.ptr 1 0)).put 5 (.ptr 2 0)) rfl rfl (low_schCells s) (by exact sbr0) rfl ?_
 refine PW.freezeP (id:=1) (s:=4) (off:=0) (σ':=((bot.setb 2 (psumL b)).put 3 (.ep (schCellsP s) 0)).put 5 (.ptr 2 0)) rfl rfl (low_psumL a) (by exact sbr0) rfl ?_
 refine PW.freezeP (id:=2) (s:=5) (off:=0) (σ':=(bot.put 3 (.ep (schCellsP s) 0)).put 4 (.ep (psumL a) 0)) rfl rfl (low_psumL b) (by exact sbr0) rfl ?_
 refine wk ?_
 exact retP rfl (by simp [low_fn,hlow1,hlow2,hlow3]) rfl
set_option maxRecDepth 10000 in
theorem pw_alien (w:ByteArray) (y:PField) (h:y.words.length≤1000000):PCalls Tryz.prog 103 [pstr w, .ep (pfldL y) 0] (· = pbool (!hasB y.words w)):=by
 have hc:=pc_containsS y.words w (by omega)
 have hlow1:Low (.ep (pfldL y) 0):=.ep _ _ (low_pfldL y)
 refine pcalls_of_pw typeTab_ok Tryz.func103 rfl (by kernel_rfl) (by simp [low_pstr,hlow1]) (by simp [pstr,PV.ownB]) (by rw [Tryz.ntmps103];simp) ?_
 rw [Tryz.ntmps103,Tryz.results103]
 cases e:hasB y.words w <;>
 ·rw [e] at hc
  refine wk ?_
  exact retP rfl (by exact lw) rfl
def badF (ca cb:Int) (x y:PField):Bool:=decide (y.has < x.has) || (decide (cb - y.has < ca - x.has) || (decide (0 < x.has) && (decide (x.lo < y.lo) || (decide (y.hi < x.hi) || x.words.any fun w => !hasB y.words w))))
def shellOut (a b:PSum) (k:Nat):Bool:=decide ((b.shells.getD k default).lo≤(a.shells.getD k default).lo) && decide ((a.shells.getD k default).hi≤(b.shells.getD k default).hi)
def withinZ (s:PSchema) (a b:PSum):Bool:=
 decide (a.count≤b.count) && (boxIn a.box b.box && (decide (a.shells.length=b.shells.length) && ((List.range a.shells.length).all (shellOut a b) && (decide (b.fromLo≤a.fromLo) && (decide (a.fromHi≤b.fromHi) && (decide (a.toHi≤b.toHi) && (decide (b.bornLo≤a.bornLo) && (decide (a.bornHi≤b.bornHi) &&
  (List.range s.defs.length).all fun k => !badF a.count b.count (a.fields.getD k default) (b.fields.getD k default)))))))))
def CountZ (z:PSum):Prop:=(-1000000≤z.count∧z.count≤1000000)∧∀k,-1000000≤(z.fields.getD k default).has∧(z.fields.getD k default).has≤1000000
theorem part_fld {s:PSchema} {a b:PSum} {pre:List (List PV)} {x:List PV} (h:Part (fldsL s a b) (pre ++ [x])):∃k,k < s.defs.length∧x=fldR s a b k∧pre=(fldsL s a b).take k:=by
 obtain ⟨k,hk⟩:=h
 have hl:pre.length+1=min k (fldsL s a b).length:=by
  have:=congrArg List.length hk
  simpa using this
 have hj:pre.length < s.defs.length:=by rw [fldsL_len] at hl;omega
 refine ⟨pre.length,hj,?_,?_⟩
 ·have h1:(pre ++ [x])[pre.length]? = some x:=by simp
  rw [hk,List.getElem?_take,if_pos (by omega)] at h1
  simp only [fldsL,List.getElem?_map,List.getElem?_range hj,Option.map_some,Option.some.injEq] at h1
  exact h1.symm
 ·have h1:pre=(pre ++ [x]).take pre.length:=by simp
  rw [hk,List.take_take] at h1
  rwa [show min pre.length k=pre.length by omega] at h1
set_option maxRecDepth 10000 in
set_option maxHeartbeats 16000000 in
theorem pw_within (s:PSchema) (a b:PSum) (ha:SmallZ a) (hb:SmallZ b) (ca:CountZ a) (cb:CountZ b) (h0:s.defs.length≤1000000) (h1:s.defs.length≤a.fields.length) (h2:s.defs.length≤b.fields.length):PCalls Tryz.prog 39 [pschema s,psum a,psum b] (· = pbool (withinZ s a b)):=by
 obtain ⟨x1,x2,x3,x4,x5⟩:=ha
 obtain ⟨y1,y2,y3,y4,y5⟩:=hb
 obtain ⟨ca1,ca2⟩:=ca
 obtain ⟨cb1,cb2⟩:=cb
 have c1:=pw_boxIn a.box b.box (by omega) (by omega) (by omega) (by omega)
 have c2:=pw_fields s a b
 have hla:=low_psumL a
 have hlb:=low_psumL b
 have hls:=low_schCells s
 have hles:Low (.ep (schCellsP s) 0):=.ep _ _ hls
 have hlfa0:∀v:Bool,∀c ∈ [pbool v],Low c:=fun v c hc=>by simp only [List.mem_cons,List.not_mem_nil,or_false] at hc;subst hc;exact .val _
 have hlf1:=hlfa0 false
 have hlow:∀x,Low (pshells x):=fun x=>(low_pshells x).2 trivial
 have hlea:Low (.ep (psumL a) 0):=.ep _ _ hla
 have hleb:Low (.ep (psumL b) 0):=.ep _ _ hlb
 have f:∀v,withinZ s a b=v→pbool v=pbool (withinZ s a b):=fun v h=>by rw [h]
 refine pcalls_of_pw typeTab_ok Tryz.func39 rfl (by kernel_rfl) (by simp [low_psum,low_pschema]) (by simp [psum,psumL,pschema,PV.ownB]) (by rw [Tryz.ntmps39];simp) ?_
 rw [Tryz.ntmps39,Tryz.results39]
 refine PW.seq ?_
 refine PW.region typeTab_ok (by kernel_rfl) ?_
 refine wg ?_
 refine PW.freezeP (id:=0) (s:=3) (off:=0) (σ':=(((((bot.setb 1 (psumL a)).setb 2 (psumL b)).setb 3 [pbool false]).put 4 (.ptr 1 0)).put 5 (.ptr 2 0)).put 6 (.ptr 3 0)) rfl rfl hls (by exact sbr0) rfl ?_
 refine PW.freezeP (id:=1) (s:=4) (off:=0) (σ':=((((bot.setb 2 (psumL b)).setb 3 [pbool false]).put 3 (.ep (schCellsP s) 0)).put 5 (.ptr 2 0)).put 6 (.ptr 3 0)) rfl rfl hla (by exact sbr0) rfl ?_
 refine PW.freezeP (id:=2) (s:=5) (off:=0) (σ':=(((bot.setb 3 [pbool false]).put 3 (.ep (schCellsP s) 0)).put 4 (.ep (psumL a) 0)).put 6 (.ptr 3 0)) rfl rfl hlb (by exact sbr0) rfl ?_
 unfold pbox pboxL at c1
 by_cases e0:a.count≤b.count
 rotate_left
 ·refine wk ?_
  exact retP rfl (by exact lw) (f _ (by simp only [withinZ,decide_eq_false e0,Bool.false_and,Bool.and_false]))
 cases e1:boxIn a.box b.box with
 |false=>
  rw [e1] at c1
  refine wk ?_
  exact retP rfl (by exact lw) (f _ (by simp only [withinZ,e1,Bool.false_and,Bool.and_false]))
 |true=>
  rw [e1] at c1
  by_cases e2:a.shells.length=b.shells.length
  rotate_left
  ·refine wk ?_
   exact retP rfl (by exact lw) (f _ (by simp only [withinZ,decide_eq_false e2,Bool.false_and,Bool.and_false]))
  refine wk ?_
  clear c1
  refine PW.loop (fun k:Nat=>((((((((bot.setb 3 [pbool false]).put 3 (.ep (schCellsP s) 0)).put 4 (.ep (psumL a) 0)).put 5 (.ep (psumL b) 0)).put 6 (.ptr 3 0)).put 37 (pshells a.shells)).put 38 (pint a.shells.length)).put 39 (pint k))) (fun k=>k≤a.shells.length∧∀j,j < k→shellOut a b j=true) (fun k=>a.shells.length - k) 0 ⟨by omega,by simp⟩ ?_ ?_
  ·exact sb
  rintro k ⟨hk,hall⟩
  by_cases hlt:k < a.shells.length
  ·have hbad:shellOut a b k=false→(List.range a.shells.length).all (shellOut a b)=false:=fun h=>by
    rw [List.all_eq_false];exact ⟨k,by simp [hlt],by rw [h];decide⟩
   by_cases g1:(b.shells.getD k default).lo≤(a.shells.getD k default).lo
   ·by_cases g2:(a.shells.getD k default).hi≤(b.shells.getD k default).hi
    ·refine wk ?_
     have hI:k+1≤a.shells.length∧∀j,j < k+1→shellOut a b j=true:=⟨by omega,fun j hj=>by
      rcases Nat.lt_succ_iff_lt_or_eq.1 hj with h|h
      ·exact hall j h
      ·rw [h];simp only [shellOut,g1,g2,decide_true,Bool.and_self]⟩
     refine loopP (k+1) ?_ ?_ ?_
     ·exact hI
     ·omega
     ·exact sb
    ·have hb:=hbad (by simp only [shellOut,decide_eq_false g2,Bool.and_false])
     refine wk ?_
     exact retP rfl (by exact lw) (f _ (by simp only [withinZ,hb,Bool.false_and,Bool.and_false]))
   ·have hb:=hbad (by simp only [shellOut,decide_eq_false g1,Bool.false_and])
    refine wk ?_
    exact retP rfl (by exact lw) (f _ (by simp only [withinZ,hb,Bool.false_and,Bool.and_false]))
  have hkk:k=a.shells.length:=by omega
  have e3:(List.range a.shells.length).all (shellOut a b)=true:=by
   rw [List.all_eq_true];intro j hj;exact hall j (by simp at hj;omega)
  by_cases e4:b.fromLo≤a.fromLo
  rotate_left
  ·refine wk ?_
   exact retP rfl (by exact lw) (f _ (by simp only [withinZ,decide_eq_false e4,Bool.false_and,Bool.and_false]))
  by_cases e5:a.fromHi≤b.fromHi
  rotate_left
  ·refine wk ?_
   exact retP rfl (by exact lw) (f _ (by simp only [withinZ,decide_eq_false e5,Bool.false_and,Bool.and_false]))
  by_cases e6:a.toHi≤b.toHi
  rotate_left
  ·refine wk ?_
   exact retP rfl (by exact lw) (f _ (by simp only [withinZ,decide_eq_false e6,Bool.false_and,Bool.and_false]))
  by_cases e7:b.bornLo≤a.bornLo
  rotate_left
  ·refine wk ?_
   exact retP rfl (by exact lw) (f _ (by simp only [withinZ,decide_eq_false e7,Bool.false_and,Bool.and_false]))
  by_cases e8:a.bornHi≤b.bornHi
  rotate_left
  ·refine wk ?_
   exact retP rfl (by exact lw) (f _ (by simp only [withinZ,decide_eq_false e8,Bool.false_and,Bool.and_false]))
  refine wk ?_
  refine PW.rangeFunc (A:=Part (fldsL s a b)) (S:=(· = fldsL s a b)) 3000000 [3000003] (fun _=>(((bot.setb 3000003 [pbool false]).put 4 (.ep (psumL a) 0)).put 5 (.ep (psumL b) 0)).put 6 (.ptr 3000003 0)) (fun pre=>∀k,k < pre.length→badF a.count b.count (a.fields.getD k default) (b.fields.getD k default)=false) (by simp) rfl rfl ?_ (it_fields s a b h0 h1 h2 x4 y4) (by exact sbr0) (fun pre=>by exact kn0) (by intro pre i hi;simp only [List.mem_cons,List.not_mem_nil,or_false] at hi;rcases hi with rfl|rfl|rfl|rfl|rfl<;>rfl) rfl (by decide) (fun pre=>by exact ow0) (by simp) ?_ ?_ ?_
  ·simp [hlea,hleb,hles]
  ·intro pre x hx
   obtain ⟨k,-,rfl,-⟩:=part_fld hx
   exact ⟨rfl,fun p hp=>⟨low_fldR s a b k p hp,by simp only [fldR,List.mem_cons,List.not_mem_nil,or_false] at hp;rcases hp with rfl|rfl<;>rfl⟩⟩
  ·intro pre x hI hx
   obtain ⟨k,hk,rfl,hpre⟩:=part_fld hx
   simp only [putps]
   simp only [fldR]
   refine wk ?_
   refine normP ?_
   have hkbad:badF a.count b.count (a.fields.getD k default) (b.fields.getD k default)=true→withinZ s a b=false:=fun h=>by
    have:((List.range s.defs.length).all fun k => !badF a.count b.count (a.fields.getD k default) (b.fields.getD k default))=false:=by
     rw [List.all_eq_false];exact ⟨k,by simp [hk],by rw [h];decide⟩
    simp only [withinZ,this,Bool.and_false]
   have hpl:pre.length=k:=by rw [hpre,List.length_take,fldsL_len];omega
   have hgood:badF a.count b.count (a.fields.getD k default) (b.fields.getD k default)=false→∀j,j < (pre ++ [fldR s a b k]).length→badF a.count b.count (a.fields.getD j default) (b.fields.getD j default)=false:=fun h j hj=>by
    rw [List.length_append,List.length_singleton,hpl] at hj
    rcases Nat.lt_succ_iff_lt_or_eq.1 hj with h2|h2
    ·exact hI j (by omega)
    ·rw [h2];exact h
   obtain ⟨n1,n2⟩:=ca2 k
   obtain ⟨n3,n4⟩:=cb2 k
   have hxw:=x5 k
   have hyw:=y5 k
   generalize a.fields.getD k default=x at *
   generalize b.fields.getD k default=y at *
   have hany:=pw_anyS 103 [.ep (pfldL y) 0] (fun w => !hasB y.words w) x.words rfl (by omega) (by simp [low_ep];exact low_pfldL y) (fun j _=>pw_alien _ y hyw)
   have hlx:=low_pfldL x
   have hly:=low_pfldL y
   refine PW.block ?_
   refine PW.seq ?_
   refine PW.draw typeTab_ok (by kernel_rfl) (by kernel_rfl) (by kernel_rfl) ?_
   refine wg ?_
   refine PW.freezeP (id:=13005) (s:=12) (off:=0) (σ':=(((((bot.setb 3000003 [pbool false]).setb 13004 (pfldL x)).put 4 (.ep (psumL a) 0)).put 5 (.ep (psumL b) 0)).put 6 (.ptr 3000003 0)).put 11 (.ptr 13004 0)) rfl rfl hly (by exact sbr0) rfl ?_
   by_cases q1:y.has < x.has
   ·refine wk ?_
    refine roundP_ret ((bot.setb 3000003 [pbool false]).put 6 (.ptr 3000003 0)) ((bot.setb 3 [pbool false]).put 6 (.ptr 3 0)) (by exact lt0) (by exact sb) (by exact kn0) (by exact sbr0) ?_
    refine blockP_ret (thenP_ret (retP rfl (by exact lw) (f _ (hkbad (by simp only [badF,decide_eq_true q1,Bool.true_or,Bool.or_true,Bool.true_and])))))
   by_cases q2:b.count - y.has < a.count - x.has
   ·refine wk ?_
    refine roundP_ret ((bot.setb 3000003 [pbool false]).put 6 (.ptr 3000003 0)) ((bot.setb 3 [pbool false]).put 6 (.ptr 3 0)) (by exact lt0) (by exact sb) (by exact kn0) (by exact sbr0) ?_
    refine blockP_ret (thenP_ret (retP rfl (by exact lw) (f _ (hkbad (by simp only [badF,decide_eq_true q2,Bool.true_or,Bool.or_true,Bool.true_and])))))
   by_cases q3:0 < x.has
   rotate_left
   ·refine wk ?_
    refine roundP ?_ (by exact sb) (by exact lt0)
    have hg:=hgood (by simp only [badF,decide_eq_false q1,decide_eq_false q2,decide_eq_false q3,Bool.false_or,Bool.or_false,Bool.false_and,Bool.and_false,Bool.true_and])
    intro j hj
    exact hg j (by simpa using hj)
   by_cases q4:x.lo < y.lo
   ·refine wk ?_
    refine roundP_ret ((bot.setb 3000003 [pbool false]).put 6 (.ptr 3000003 0)) ((bot.setb 3 [pbool false]).put 6 (.ptr 3 0)) (by exact lt0) (by exact sb) (by exact kn0) (by exact sbr0) ?_
    refine blockP_ret (thenP_ret (retP rfl (by exact lw) (f _ (hkbad (by simp only [badF,decide_eq_true q3,decide_eq_true q4,Bool.true_or,Bool.or_true,Bool.true_and])))))
   by_cases q5:y.hi < x.hi
   ·refine wk ?_
    refine roundP_ret ((bot.setb 3000003 [pbool false]).put 6 (.ptr 3000003 0)) ((bot.setb 3 [pbool false]).put 6 (.ptr 3 0)) (by exact lt0) (by exact sb) (by exact kn0) (by exact sbr0) ?_
    refine blockP_ret (thenP_ret (retP rfl (by exact lw) (f _ (hkbad (by simp only [badF,decide_eq_true q3,decide_eq_true q5,Bool.true_or,Bool.or_true,Bool.true_and])))))
   cases q6:x.words.any fun w => !hasB y.words w with
   |true=>
    rw [q6] at hany
    refine wk ?_
    refine roundP_ret ((bot.setb 3000003 [pbool false]).put 6 (.ptr 3000003 0)) ((bot.setb 3 [pbool false]).put 6 (.ptr 3 0)) (by exact lt0) (by exact sb) (by exact kn0) (by exact sbr0) ?_
    refine blockP_ret (thenP_ret (retP rfl (by exact lw) (f _ (hkbad (by simp only [badF,decide_eq_true q3,q6,Bool.true_or,Bool.or_true,Bool.true_and])))))
   |false=>
    rw [q6] at hany
    refine wk ?_
    refine roundP ?_ (by exact sb) (by exact lt0)
    have hg:=hgood (by simp only [badF,decide_eq_false q1,decide_eq_false q2,decide_eq_false q4,decide_eq_false q5,q6,Bool.false_or,Bool.or_false,Bool.false_and,Bool.and_false,Bool.true_and])
    intro j hj
    exact hg j (by simpa using hj)
  ·intro xs hxs hI
   subst hxs
   refine ⟨(((bot.setb 3 [pbool false]).put 4 (.ep (psumL a) 0)).put 5 (.ep (psumL b) 0)).put 6 (.ptr 3 0),by exact sbr0,?_⟩
   refine wk ?_
   refine retP rfl (by exact lw) (f _ ?_)
   have:((List.range s.defs.length).all fun k => !badF a.count b.count (a.fields.getD k default) (b.fields.getD k default))=true:=by
    rw [List.all_eq_true]
    intro j hj
    have hj' : j < s.defs.length:=by simpa using hj
    rw [hI j (by rw [fldsL_len];exact hj')];rfl
   have e3':=e3
   rw [e2] at e3'
   simp only [withinZ,e0,e1,e2,e3',e4,e5,e6,e7,e8,this,decide_true,Bool.and_self]
end Go.Proofs.YtoamkpgaaanafaaGreat

/- zone: Bound, Seen. -/
namespace Go.Proofs.YtoamkpgaaanafaaGreat
set_option linter.unusedSimpArgs false
set_option linter.unusedVariables false
set_option linter.unnecessarySimpa false
open Go.RowKit
def zBound (s:PSchema) (z:PSum) (v keys:List Int):Int×Int:=
 if (boxNear s.metric z.box v).2≠0∨(lowP s.metric z.shells keys).2≠0 then (0,1) else (max (boxNear s.metric z.box v).1 (lowP s.metric z.shells keys).1,0)
set_option maxRecDepth 10000 in
set_option maxHeartbeats 1000000 in
theorem pw_zBound (s:PSchema) (z:PSum) (v keys:List Int) (hz:SmallZ z) (h1:v.length≤1000000) (h2:keys.length≤1000000):PCalls Tryz.prog 25 [pschema s,psum z,pints v,pints keys] (· = .tup [pint (zBound s z v keys).1,pint (zBound s z v keys).2]):=by
 obtain ⟨z1,z2,z3,z4,z5⟩:=hz
 have c1:=pw_boxNear s.metric z.box v z1 z2 h1
 have c2:=pw_pLow s.metric z.shells keys z3 h2
 have hlz:=low_psumL z
 have hls:=low_schCells s
 refine pcalls_of_pw typeTab_ok Tryz.func25 rfl (by kernel_rfl) (by simp [low_psum,low_pschema,low_pints]) (by simp [psum,psumL,pschema,pints,PV.ownB]) (by rw [Tryz.ntmps25];simp) ?_
 rw [Tryz.ntmps25,Tryz.results25]
 unfold zBound
 unfold psum psumL at *
 unfold pbox pboxL at c1
 generalize boxNear s.metric z.box v=r1 at *
 generalize lowP s.metric z.shells keys=r2 at *
 obtain ⟨a1,a2⟩:=r1
 obtain ⟨b1,b2⟩:=r2
 by_cases e1:a2=0
 ·by_cases e2:b2=0
  ·refine wk ?_
   refine retP (r:=.tup [pint (max a1 b1),pint 0]) ?_ (by simp [low_tup,low_pint]) (by rw [if_neg (by simp [e1,e2])])
   rw [show max a1 b1=(if b1 > a1 then b1 else a1) from by split<;>omega]
   rfl
  ·rw [if_pos (.inr e2)]
   refine wk ?_
   exact retP (r:=.tup [pint 0,pint 1]) rfl (by simp [low_tup,low_pint]) rfl
 ·rw [if_pos (.inl e1)]
  refine wk ?_
  exact retP (r:=.tup [pint 0,pint 1]) rfl (by simp [low_tup,low_pint]) rfl
structure PSnap where
 day:Int
 commit:Int
 deriving Inhabited
def psnap (a:PSnap):PV:=.agg [pint a.day,pint a.commit]
theorem low_psnap (a:PSnap):Low (psnap a)↔True:=by simp [psnap,low_agg,low_pint]
def zSeen (z:PSum) (a:PSnap):Bool:=decide (z.fromLo≤a.day) && (decide (a.day < z.toHi) && decide (z.bornLo≤a.commit))
set_option maxRecDepth 10000 in
set_option maxHeartbeats 1000000 in
theorem pw_zSeen (z:PSum) (a:PSnap):PCalls Tryz.prog 27 [psum z,psnap a] (· = pbool (zSeen z a)):=by
 refine pcalls_of_pw typeTab_ok Tryz.func27 rfl (by kernel_rfl) (by simp [low_psum,low_psnap]) (by simp [psum,psnap,PV.ownB]) (by rw [Tryz.ntmps27];simp) ?_
 rw [Tryz.ntmps27,Tryz.results27]
 unfold zSeen
 have hlz:=low_psumL z
 unfold psum psumL psnap at *
 by_cases e1:z.fromLo≤a.day
 ·by_cases e2:a.day < z.toHi
  ·by_cases e3:z.bornLo≤a.commit
   ·refine wk ?_
    exact retP rfl (by exact lw) (by simp [pbool,e1,e2,e3])
   ·refine wk ?_
    exact retP rfl (by exact lw) (by simp [pbool,e3])
  ·refine wk ?_
   exact retP rfl (by exact lw) (by simp [pbool,e2])
 ·refine wk ?_
  exact retP rfl (by exact lw) (by simp [pbool,e1])
end Go.Proofs.YtoamkpgaaanafaaGreat

/- A scope with labels through which the run goes without a jump back, over pure states. -/
namespace Go.Proofs.YtoamkpgaaanafaaGreat
set_option linter.unusedSimpArgs false
set_option linter.unusedVariables false
set_option linter.unnecessarySimpa false
open Go.RowKit
section
variable {P:Program} {b:Frame} {a:Act} {k:List Item} {cs:List Frame} {w:World}
theorem stepR_scope {c:Code} : step P (lone (b.atR a (.code (.scope c) :: k)) cs w) = .next (lone (b.atR a (.code c :: .inScope c :: k)) cs w):=
 step_lone_go (by simp [stepG,stepG.exec,Frame.atR])
theorem stepR_inScope {c:Code} : step P (lone (b.atR a (.inScope c :: k)) cs w) = .next (lone (b.atR a k) cs w):=
 step_lone_go (by simp [stepG,stepG.exec,Frame.atR])
theorem wpIn_scope {F:Fence} {n:Nat} {Q:Exit→Act→World→Prop} {c:Code} (h:c.wpIn F n P (fun e a w=>match e with | .goto _=>False|e=>Q e a w) a w):(Code.scope c).wpIn F n P Q a w:=by
 intro b k cs hro hb hr
 have h0:(lone (b.atR a (.code (.scope c) :: k)) cs w).fenced P F:=fenced_calm hb hr rfl
 obtain ⟨e,a₁,w₁,hq,harr⟩:=h b (.inScope c :: k) cs hro hb hr
 cases e with
 |normal=>exact ⟨.normal,a₁,w₁,hq, .head h0 stepR_scope (StepsIn.trans harr (.one (fenced_calm hb hr rfl) stepR_inScope))⟩
 |exit id=>
  have hx:exitTo id (.inScope c :: k)=exitTo id k:=by simp [exitTo]
  exact ⟨.exit id,a₁,w₁,hq,fun k' hk=>.head h0 stepR_scope (harr.1 k' (by rw [hx];exact hk)),
   fun hr' hk=>let ⟨k₁,h1,h2⟩:=harr.2 hr' (by rw [hx];exact hk); ⟨k₁,h1, .head h0 stepR_scope h2⟩⟩
 |goto l=>exact hq.elim
 |ret=>exact ⟨_,a₁,w₁,hq, .of_steps (.one h0 stepR_scope) harr⟩
 |panic ch=>exact ⟨_,a₁,w₁,hq, .of_steps (.one h0 stepR_scope) harr⟩
 |outgrown=>exact ⟨_,a₁,w₁,hq, .of_steps (.one h0 stepR_scope) harr⟩
end
section
variable {P:Program} {M:Nat} {Q:Exit→PS→Prop} {σ:PS}
def ScopeP (Q:Exit→PS→Prop):Exit→PS→Prop
 | .goto _,_=>False
 |e,σ=>Q e σ
theorem PW.scope {c:Code} (h:PW P M c (ScopeP Q) σ):PW P M (.scope c) Q σ:=by
 intro Φ0 W a w hr
 refine wpIn_scope (wpIn_mono (h Φ0 W a w hr) ?_)
 rintro e a' w' ⟨σ',Φ1,W1,h1,h2⟩
 cases e with
 |goto i=>exact h1
 |_=>exact ⟨σ',Φ1,W1,h1,h2⟩
theorem scopeP_ret (h:Q .ret σ):ScopeP Q .ret σ:=h
end
end Go.Proofs.YtoamkpgaaanafaaGreat

/- zone: Obeys. -/
namespace Go.Proofs.YtoamkpgaaanafaaGreat
set_option linter.unusedSimpArgs false
set_option linter.unusedVariables false
set_option linter.unnecessarySimpa false
open Go.RowKit
def obeyF (d:PDef) (f:PField) (count:Int) (e:PEntry):Bool:=
 if (getA e.attrs d.name).2=false then !decide (f.has=count)
 else if f.has=0 then false
 else if d.kind=1 then withinB (getA e.attrs d.name).1.n f.lo f.hi
 else if d.kind=2 then hasB f.words (getA e.attrs d.name).1.s else true
def obeyK (s:PSchema) (pv:List (List Int)) (z:PSum) (e:PEntry) (k:Nat):Bool:=withinB (keyV s.metric (pv.getD k default) e.vec) (z.shells.getD k default).lo (z.shells.getD k default).hi
def obeysZ (s:PSchema) (pv:List (List Int)) (z:PSum) (e:PEntry):Bool:=
 decide (entryA s e=0) && (boxHas z.box e.vec && (decide (z.shells.length=pv.length) && ((List.range pv.length).all (obeyK s pv z e) && (withinB e.frm z.fromLo z.fromHi && (decide (e.to≤z.toHi) && (withinB e.born z.bornLo z.bornHi &&
  (List.range s.defs.length).all fun k=>obeyF (s.defs.getD k default) (z.fields.getD k default) z.count e))))))
theorem low_pattrL2 (a:PAttr):∀c∈pattrL a,Low c:=by
 intro c hc
 simp only [pattrL,List.mem_cons,List.not_mem_nil,or_false] at hc
 rcases hc with rfl|rfl|rfl|rfl<;>exact .val _
set_option maxRecDepth 10000 in
set_option maxHeartbeats 16000000 in
theorem pw_obeys (s:PSchema) (pv:List (List Int)) (z:PSum) (e:PEntry) (hz:SmallZ z) (hs:SmallS s) (hv:e.vec.length≤1000000) (ha:e.attrs.length≤1000000) (hm:keyB s.metric=true)
  (h1:pv.length≤1000000) (hp:∀k,k < pv.length→vecB (pv.getD k default)=true∧((pv.getD k default).length:Int)=s.dims) (he:entryA s e=0→vecB e.vec=true∧(e.vec.length:Int)=s.dims) (hf:s.defs.length≤z.fields.length) :
  PCalls Tryz.prog 22 [pschema s,pvecs pv,psum z,pentry e] (· = pbool (obeysZ s pv z e)):=by
 obtain ⟨z1,z2,z3,z4,z5⟩:=hz
 have h0:s.defs.length≤1000:=hs.1
 have c1:=pcEntry s e hs hv ha
 have c2:=pw_boxHas z.box e.vec (by omega) (by omega) (by omega)
 have hlz:=low_psumL z
 have hls:=low_schCells s
 have hle:=low_entCells e
 have hlz1:Low (.ep (psumL z) 0):=.ep _ _ hlz
 have hls1:Low (.ep (schCellsP s) 0):=.ep _ _ hls
 have hle1:Low (.ep (entCellsP e) 0):=.ep _ _ hle
 have hlow:∀x,Low (pvecs x):=fun x=>(low_pvecs x).2 trivial
 have hlow2:∀x,Low (pdefs x):=fun x=>(low_pdefs x).2 trivial
 have hld:=hlow2 s.defs
 have f:∀v,obeysZ s pv z e=v→pbool v=pbool (obeysZ s pv z e):=fun v h=>by rw [h]
 refine pcalls_of_pw typeTab_ok Tryz.func22 rfl (by kernel_rfl) (by simp [low_psum,low_pschema,low_pvecs,low_pentry]) (by simp [psum,psumL,pschema,pvecs,pentry,PV.ownB]) (by rw [Tryz.ntmps22];simp) ?_
 rw [Tryz.ntmps22,Tryz.results22]
 refine PW.seq ?_
 refine PW.region typeTab_ok (by kernel_rfl) ?_
 refine wg ?_
 refine PW.freezeP (id:=0) (s:=4) (off:=0) (σ':=(((((bot.setb 1 (psumL z)).setb 2 (entCellsP e)).put 1 (pvecs pv)).put 6 (.ptr 1 0)).put 7 (.ptr 2 0))) rfl rfl hls (by exact sbr0) rfl ?_
 refine PW.freezeP (id:=1) (s:=6) (off:=0) (σ':=((((bot.setb 2 (entCellsP e)).put 1 (pvecs pv)).put 4 (.ep (schCellsP s) 0)).put 7 (.ptr 2 0))) rfl rfl hlz (by exact sbr0) rfl ?_
 refine PW.freezeP (id:=2) (s:=7) (off:=0) (σ':=(((bot.put 1 (pvecs pv)).put 4 (.ep (schCellsP s) 0)).put 6 (.ep (psumL z) 0))) rfl rfl hle (by exact sbr0) rfl ?_
 refine PW.scope ?_
 by_cases e0:entryA s e=0
 rotate_left
 ·refine wk ?_
  refine scopeP_ret ?_
  exact retP rfl (by exact lw) (f _ (by simp only [obeysZ,decide_eq_false e0,Bool.false_and,Bool.and_false]))
 obtain ⟨v1,v2⟩:=he e0
 cases e1:boxHas z.box e.vec with
 |false=>
  rw [e1] at c2
  refine wk ?_
  refine scopeP_ret ?_
  exact retP rfl (by exact lw) (f _ (by simp only [obeysZ,e1,Bool.false_and,Bool.and_false]))
 |true=>
  rw [e1] at c2
  by_cases e2:z.shells.length=pv.length
  rotate_left
  ·refine wk ?_
   refine scopeP_ret ?_
   exact retP rfl (by exact lw) (f _ (by simp only [obeysZ,decide_eq_false e2,Bool.false_and,Bool.and_false]))
  refine wk ?_
  refine PW.label ?_
  refine wk ?_
  clear c1 c2
  refine PW.loop (fun k:Nat=>(((((((bot.put 4 (.ep (schCellsP s) 0)).put 6 (.ep (psumL z) 0)).put 7 (.ep (entCellsP e) 0)).put 9 (pbool true)).put 38 (pvecs pv)).put 39 (pint pv.length)).put 40 (pint k))) (fun k=>k≤pv.length∧∀j,j < k→obeyK s pv z e j=true) (fun k=>pv.length - k) 0 ⟨by omega,by simp⟩ ?_ ?_
  ·exact sb
  rintro k ⟨hk,hall⟩
  by_cases hlt:k < pv.length
  ·obtain ⟨b1,b2⟩:=hp k hlt
   have p1:=pw_vecKey s.metric (pv.getD k default) e.vec hm b1 v1 (by omega)
   have p2:=pw_isWithin (keyV s.metric (pv.getD k default) e.vec) (z.shells.getD k default).lo (z.shells.getD k default).hi
   cases e3:obeyK s pv z e k with
   |false=>
    have hb:(List.range pv.length).all (obeyK s pv z e)=false:=by
     rw [List.all_eq_false];exact ⟨k,by simp [hlt],by rw [e3];decide⟩
    unfold obeyK at e3
    rw [e3] at p2
    refine wk ?_
    refine scopeP_ret ?_
    exact retP rfl (by exact lw) (f _ (by simp only [obeysZ,hb,Bool.false_and,Bool.and_false]))
   |true=>
    have hI:k+1≤pv.length∧∀j,j < k+1→obeyK s pv z e j=true:=⟨by omega,fun j hj=>by
     rcases Nat.lt_succ_iff_lt_or_eq.1 hj with h|h
     ·exact hall j h
     ·rw [h];exact e3⟩
    unfold obeyK at e3
    rw [e3] at p2
    refine wk ?_
    refine loopP (k+1) ?_ ?_ ?_
    ·exact hI
    ·omega
    ·exact sb
  have e4:(List.range pv.length).all (obeyK s pv z e)=true:=by
   rw [List.all_eq_true];intro j hj;exact hall j (by simp at hj;omega)
  have hw5:=pw_isWithin e.frm z.fromLo z.fromHi
  have hw6:=pw_isWithin e.born z.bornLo z.bornHi
  cases e5:withinB e.frm z.fromLo z.fromHi with
  |false=>
   rw [e5] at hw5
   refine wk ?_
   refine scopeP_ret ?_
   exact retP rfl (by exact lw) (f _ (by simp only [obeysZ,e5,Bool.false_and,Bool.and_false]))
  |true=>
   rw [e5] at hw5
   by_cases e6:e.to≤z.toHi
   rotate_left
   ·refine wk ?_
    refine scopeP_ret ?_
    exact retP rfl (by exact lw) (f _ (by simp only [obeysZ,decide_eq_false e6,Bool.false_and,Bool.and_false]))
   cases e7:withinB e.born z.bornLo z.bornHi with
   |false=>
    rw [e7] at hw6
    refine wk ?_
    refine scopeP_ret ?_
    exact retP rfl (by exact lw) (f _ (by simp only [obeysZ,e7,Bool.false_and,Bool.and_false]))
   |true=>
    rw [e7] at hw6
    refine wk ?_
    clear hw5 hw6
    refine PW.loop (fun k:Nat=>((((((bot.put 4 (.ep (schCellsP s) 0)).put 6 (.ep (psumL z) 0)).put 7 (.ep (entCellsP e) 0)).put 98 (pdefs s.defs)).put 99 (pint s.defs.length)).put 100 (pint k))) (fun k=>k≤s.defs.length∧∀j,j < k→obeyF (s.defs.getD j default) (z.fields.getD j default) z.count e=true) (fun k=>s.defs.length - k) 0 ⟨by omega,by simp⟩ ?_ ?_
    ·exact sb
    rintro k ⟨hk2,hall2⟩
    by_cases hlt2:k < s.defs.length
    ·have hb:obeyF (s.defs.getD k default) (z.fields.getD k default) z.count e=false→obeysZ s pv z e=false:=fun h=>by
      have:((List.range s.defs.length).all fun k=>obeyF (s.defs.getD k default) (z.fields.getD k default) z.count e)=false:=by
       rw [List.all_eq_false];exact ⟨k,by simp [hlt2],by rw [h];decide⟩
      simp only [obeysZ,this,Bool.and_false]
     have hI:obeyF (s.defs.getD k default) (z.fields.getD k default) z.count e=true→k+1≤s.defs.length∧∀j,j < k+1→obeyF (s.defs.getD j default) (z.fields.getD j default) z.count e=true:=fun h=>⟨by omega,fun j hj=>by
      rcases Nat.lt_succ_iff_lt_or_eq.1 hj with h2|h2
      ·exact hall2 j h2
      ·rw [h2];exact h⟩
     have p1:=pcGet e.attrs (s.defs.getD k default).name ha
     have p2:=pw_isWithin (getA e.attrs (s.defs.getD k default).name).1.n (z.fields.getD k default).lo (z.fields.getD k default).hi
     have p3:=pc_containsS (z.fields.getD k default).words (getA e.attrs (s.defs.getD k default).name).1.s (by have:=z5 k;omega)
     have hd1:=low_pdefL (s.defs.getD k default)
     have hd2:=low_pfldL (z.fields.getD k default)
     have hd3:=low_pattrL2 (getA e.attrs (s.defs.getD k default).name).1
     unfold obeyF at hb hI
     cases q0:(getA e.attrs (s.defs.getD k default).name).2 with
     |false=>
      rw [if_pos q0] at hb hI
      rw [q0] at p1
      by_cases q1:(z.fields.getD k default).has=z.count
      ·refine wk ?_
       refine scopeP_ret ?_
       exact retP rfl (by exact lw) (f _ (hb (by simp only [decide_eq_true q1];rfl)))
      ·refine wk ?_
       refine loopP (k+1) ?_ ?_ ?_
       ·exact hI (by simp only [decide_eq_false q1];rfl)
       ·omega
       ·exact sb
     |true=>
      rw [if_neg (by rw [q0];decide)] at hb hI
      rw [q0] at p1
      by_cases q1:(z.fields.getD k default).has=0
      ·rw [if_pos q1] at hb hI
       refine wk ?_
       refine scopeP_ret ?_
       exact retP rfl (by exact lw) (f _ (hb rfl))
      ·rw [if_neg q1] at hb hI
       by_cases q2:(s.defs.getD k default).kind=1
       ·rw [if_pos q2] at hb hI
        cases q3:withinB (getA e.attrs (s.defs.getD k default).name).1.n (z.fields.getD k default).lo (z.fields.getD k default).hi with
        |false=>
         rw [q3] at p2
         refine wk ?_
         refine scopeP_ret ?_
         exact retP rfl (by exact lw) (f _ (hb q3))
        |true=>
         rw [q3] at p2
         refine wk ?_
         refine loopP (k+1) ?_ ?_ ?_
         ·exact hI q3
         ·omega
         ·exact sb
       ·rw [if_neg q2] at hb hI
        by_cases q4:(s.defs.getD k default).kind=2
        ·rw [if_pos q4] at hb hI
         cases q5:hasB (z.fields.getD k default).words (getA e.attrs (s.defs.getD k default).name).1.s with
         |false=>
          rw [q5] at p3
          refine wk ?_
          refine scopeP_ret ?_
          exact retP rfl (by exact lw) (f _ (hb q5))
         |true=>
          rw [q5] at p3
          refine wk ?_
          refine loopP (k+1) ?_ ?_ ?_
          ·exact hI q5
          ·omega
          ·exact sb
        ·rw [if_neg q4] at hb hI
         refine wk ?_
         refine loopP (k+1) ?_ ?_ ?_
         ·exact hI rfl
         ·omega
         ·exact sb
    ·refine wk ?_
     refine scopeP_ret ?_
     refine retP rfl (by exact lw) (f _ ?_)
     have:((List.range s.defs.length).all fun k=>obeyF (s.defs.getD k default) (z.fields.getD k default) z.count e)=true:=by
      rw [List.all_eq_true];intro j hj;exact hall2 j (by simp at hj;omega)
     simp only [obeysZ,e0,e1,e2,e4,e5,e6,e7,this,decide_true,Bool.and_self]
end Go.Proofs.YtoamkpgaaanafaaGreat

/- Sets of strings as maps; their sorted keys. -/
namespace Go.Proofs.YtoamkpgaaanafaaGreat
set_option linter.unusedSimpArgs false
set_option linter.unusedVariables false
set_option linter.unnecessarySimpa false
open Go.RowKit
section
def sIdx (s:ByteArray):List ByteArray→Nat→Option Nat
 | [],_=>none
 |k :: l,n=>if s == k then some n else sIdx s l (n+1)
theorem sIdx_some {s:ByteArray} : ∀{l:List ByteArray} {n j:Nat},sIdx s l n=some j→n≤j∧l[j - n]? = some s
 | [],n,j,h=>by cases h
 |k :: l,n,j,h=>by
  simp only [sIdx] at h
  split at h
  ·rename_i e
   cases h
   exact ⟨Nat.le_refl _,by simp [(ba_beq s k).1 e]⟩
  ·obtain ⟨h1,h2⟩:=sIdx_some h
   exact ⟨by omega,by rw [show j - n=(j - (n+1))+1 by omega];simpa using h2⟩
theorem sIdx_none {s:ByteArray} : ∀{l:List ByteArray} {n:Nat},sIdx s l n=none→s∉l
 | [],n,h=>by simp
 |k :: l,n,h=>by
  simp only [sIdx] at h
  split at h
  ·cases h
  ·rename_i e
   have:=sIdx_none h
   simp only [List.mem_cons,not_or]
   exact ⟨fun e2=>e ((ba_beq s k).2 e2),this⟩
theorem mfind_str (s:ByteArray):∀(l:List (Nat×ByteArray)) (n:Nat),mfind .str (.string s) (l.map fun e=>(e.1,pstr e.2,pbool true)) n=some (sIdx s (l.map (·.2)) n)
 | [],n=>rfl
 |(i,k) :: l,n=>by
  simp only [List.map_cons,pstr,mfind,veq,sIdx]
  cases h:s == k with
  |true=>simp
  |false=>
   simp only [Bool.false_eq_true,if_false]
   exact mfind_str s l (n+1)
def smI (ks:List ByteArray):List (Nat×ByteArray):=(List.range ks.length).map fun i=>(i,ks.getD i default)
def smE (ks:List ByteArray):List (Nat×PV×PV):=(smI ks).map fun e=>(e.1,pstr e.2,pbool true)
def smL (ks:List ByteArray):PMap:=.map (smE ks) ks.length
theorem smI_snd (ks:List ByteArray):(smI ks).map (·.2)=ks:=by
 apply List.ext_getElem?
 intro i
 simp only [smI,List.map_map,List.getElem?_map]
 by_cases h:i < ks.length
 ·simp [List.getElem?_range h,h]
 ·rw [List.getElem?_eq_none (by simpa using h),List.getElem?_eq_none (by simpa using h)];rfl
theorem smE_len (ks:List ByteArray):(smE ks).length=ks.length:=by simp [smE,smI]
theorem smE_get {ks:List ByteArray} {i:Nat} {k:ByteArray} (h:ks[i]? = some k):(smE ks)[i]? = some (i,pstr k,pbool true):=by
 obtain ⟨hi,rfl⟩:=List.getElem?_eq_some_iff.1 h
 simp [smE,smI,List.getElem?_range hi,hi]
theorem smE_app (ks:List ByteArray) (s:ByteArray):smE (ks ++ [s])=smE ks ++ [(ks.length,pstr s,pbool true)]:=by
 simp only [smE,smI,List.length_append,List.length_singleton,List.range_succ,List.map_append,List.map_cons,List.map_nil]
 congr 1
 ·rw [List.map_map,List.map_map]
  apply List.map_congr_left
  intro i hi
  have hi' : i < ks.length:=by simpa using hi
  simp [List.getElem?_append_left hi']
 ·simp
open Classical in
noncomputable def addK (ks:List ByteArray) (s:ByteArray):List ByteArray:=if s∈ks then ks else ks ++ [s]
theorem addK_mem {ks:List ByteArray} {s x:ByteArray} : x∈addK ks s↔x∈ks∨x=s:=by
 unfold addK
 split
 ·constructor
  ·exact .inl
  ·rintro (h|rfl)
   ·exact h
   ·assumption
 ·simp
theorem addK_nodup {ks:List ByteArray} (s:ByteArray) (h:ks.Nodup):(addK ks s).Nodup:=by
 unfold addK
 split
 ·exact h
 ·rename_i hs
  rw [List.nodup_append]
  exact ⟨h,by simp,fun a ha b hb=>by simp at hb;subst hb;rintro rfl;exact hs ha⟩
theorem addK_len (ks:List ByteArray) (s:ByteArray):(addK ks s).length≤ks.length+1:=by
 unfold addK;split<;>simp
theorem sm_mput (ks:List ByteArray) (s:ByteArray) {ki:TyI} (hk:ki.kind = .str):mput ki (smE ks) ks.length (.string s) (pbool true)=some (smL (addK ks s)):=by
 unfold mput addK
 simp only [hk,keyOK,skT,if_true,smE,mfind_str,smI_snd]
 cases h:sIdx s ks 0 with
 |none=>
  rw [if_neg (sIdx_none h)]
  simp only [smL,smE_app,List.length_append,List.length_singleton]
  rfl
 |some j=>
  obtain ⟨-,h2⟩:=sIdx_some h
  rw [Nat.sub_zero] at h2
  have h3:=smE_get h2
  have hm:s∈ks:=List.mem_of_getElem? h2
  rw [if_pos hm]
  have h4:((smI ks).map fun e=>(e.1,pstr e.2,pbool true))[j]? = some (j,pstr s,pbool true):=h3
  simp only [h4]
  simp only [smL,smE]
  congr 2
  obtain ⟨hj,h5⟩:=List.getElem?_eq_some_iff.1 h4
  have:(j,PV.val (.string s),pbool true)=((smI ks).map fun e=>(e.1,pstr e.2,pbool true))[j]:=h5.symm
  rw [this,List.set_getElem_self]
def sortS (ks:List ByteArray):List ByteArray:=((ks.map fun k=>k.data.toList).mergeSort leB).map fun x=>⟨x.toArray⟩
theorem sortS_perm (ks:List ByteArray):(sortS ks).Perm ks:=by
 have h:=(List.mergeSort_perm (ks.map fun k=>k.data.toList) leB).map fun x:List UInt8=>(⟨x.toArray⟩:ByteArray)
 rw [List.map_map] at h
 have e:((fun x:List UInt8=>(⟨x.toArray⟩:ByteArray)) ∘ fun k:ByteArray=>k.data.toList)=id:=by funext k;rfl
 rw [e,List.map_id] at h
 exact h
end
end Go.Proofs.YtoamkpgaaanafaaGreat

/- zone.sorted of a set of strings. -/
namespace Go.Proofs.YtoamkpgaaanafaaGreat
set_option linter.unusedSimpArgs false
set_option linter.unusedVariables false
set_option linter.unnecessarySimpa false
open Go.RowKit
def smR:Value→Option (DataW Unit×List MemPlace):=fun _=>some (.nil,[])
theorem sm_owns {w:World} {g:Nat} {ents:Array MapEntry} {ks:List ByteArray} (hb:w.heap[g]? = some (.map ents ks.length)) (hsz:ents.size=ks.length) (hnd:ks.Nodup) (hl:ks.length≤1000000) (hs:∀k∈ks,k.size≤1000000000)
  (he:∀(j:Nat) k,ks[j]? = some k→∃e,ents[j]? = some e∧e.born=j∧e.key = .string k):∃D,w.ownsMap Tryz.prog 9 smR g ks.length D∧(strKeys D).Perm (ks.map fun k=>k.data.toList)∧Maps.size D=ks.length:=by
 have hu:Tryz.prog.underlying 9=some .string:=Tryz.underlying9
 have hkeys:ents.toList.map (·.key)=ks.map Value.string:=by
  apply List.ext_getElem?
  intro j
  simp only [List.getElem?_map,Array.getElem?_toList]
  by_cases hj:j < ks.length
  ·obtain ⟨e,h1,-,h3⟩:=he j ks[j] (List.getElem?_eq_getElem hj)
   rw [h1,List.getElem?_eq_getElem hj];simp [h3]
  ·rw [Array.getElem?_eq_none (by omega),List.getElem?_eq_none (by omega)];rfl
 have hborn:ents.toList.map (·.born)=List.range ks.length:=by
  apply List.ext_getElem?
  intro j
  simp only [List.getElem?_map,Array.getElem?_toList]
  by_cases hj:j < ks.length
  ·obtain ⟨e,h1,h2,-⟩:=he j ks[j] (List.getElem?_eq_getElem hj)
   rw [h1,List.getElem?_range hj];simp [h2]
  ·rw [Array.getElem?_eq_none (by omega),List.getElem?_eq_none (by simp;omega)];rfl
 have hrd:∀x∈ents.toList,∃k∈ks,x.key = .string k∧WideElems.rd Tryz.prog 9 smR x=some (.string k.data.toList, .nil):=by
  intro x hx
  have h1:x.key∈ents.toList.map (·.key):=List.mem_map.2 ⟨x,hx,rfl⟩
  rw [hkeys] at h1
  obtain ⟨k,hk,h2⟩:=List.mem_map.1 h1
  refine ⟨k,hk,h2.symm,?_⟩
  have hsk:k.size≤maxLen:=by have:=hs k hk;unfold maxLen;omega
  simp [WideElems.rd,smR,keyOf,mapKey,hu,←h2,hsk]
 refine ⟨_,⟨ents,ks.length,hb,⟨by rw [hsz];unfold maxLen;omega,⟨fun x hx=>?_,by rw [hborn];exact List.nodup_range,?_⟩,fun x hx=>?_⟩,by omega,rfl⟩,?_,?_⟩
 ·have h1:x.born∈ents.toList.map (·.born):=List.mem_map.2 ⟨x,hx,rfl⟩
  rw [hborn] at h1
  simpa using h1
 ·rw [hkeys]
  exact List.Pairwise.map _ (fun a b hab=>by simpa using hab) hnd
 ·obtain ⟨k,-,-,h⟩:=hrd x hx
  exact ⟨_,h⟩
 ·show (((ents.toList.map (WideElems.rg Tryz.prog 9 smR)).foldr DataW.insert []).map fun p=>Go.strOf p.1).Perm _
  refine ((Go.WideShapes.sorted_perm _).map _).trans ?_
  rw [List.map_map]
  have:ents.toList.map ((fun p:Lit×DataW Unit=>Go.strOf p.1) ∘ WideElems.rg Tryz.prog 9 smR)=(ents.toList.map (·.key)).map fun v=>match v with | .string k=>k.data.toList|_ => []:=by
   rw [List.map_map]
   apply List.map_congr_left
   intro x hx
   obtain ⟨k,-,h1,h2⟩:=hrd x hx
   simp [WideElems.rg,h2,h1,Go.strOf]
  rw [this,hkeys,List.map_map]
  exact .refl _
 ·show ((ents.toList.map (WideElems.rg Tryz.prog 9 smR)).foldr DataW.insert []).length=_
  rw [(Go.WideShapes.sorted_perm _).length_eq];simp [hsz]
set_option maxRecDepth 100000 in
set_option maxHeartbeats 1000000 in
theorem sorted_calls {w:World} {g:Nat} {ents:Array MapEntry} {ks:List ByteArray} (hb:w.heap[g]? = some (.map ents ks.length)) (hsz:ents.size=ks.length) (hnd:ks.Nodup) (hl:ks.length≤1000000) (hs:∀k∈ks,k.size≤1000000000)
  (he:∀(j:Nat) k,ks[j]? = some k→∃e,ents[j]? = some e∧e.born=j∧e.key = .string k):Calls Tryz.prog 112 #[.map (some g)] w fun e w' => ∃v,e = .returned v∧Own w.heap.size 9 w' v ((sortS ks).map Value.string)∧Below w.heap.size w w':=by
 obtain ⟨D,hD,hperm,hsize⟩:=sm_owns hb hsz hnd hl hs he
 go_enter Tryz.func112,Tryz.ntmps112
 go_wp2_with (first
  |(go_at_call 195;refine (callsIn_wide.1 (Tryz.maps_Keys_195 _ _)).mono ?_;rintro e w' ⟨rfl,rfl⟩)
  |(go_at_call 194;refine (callsIn_wide.1 (Tryz.slices_Sorted_keys_194_195 g ks.length D smR w hD (by rw [hsize];unfold maxLen;omega) (by omega))).mono ?_;rintro e w' ⟨v,ss,rfl,hS,hrow,hnil,hbl⟩))
 go_ret
 have hb0:=below_alloc w (.cells #[.map (some g)] 164)
 have hbl' : Below w.heap.size w w':=hb0.trans (hbl.mono hb0.size)
 refine ⟨v,rfl,?_,hbl'⟩
 have e1:(sortS ks).map Value.string=(ss.mergeSort leB).map Go.Proofs.encStr:=by
  rw [mergeSort_of_perm (hS.trans hperm)]
  simp [sortS,List.map_map,Function.comp_def,Go.Proofs.encStr]
 have e2:(sortS ks).length=ss.length:=by
  have:=congrArg List.length e1
  simpa using this
 obtain ⟨r1,r2⟩:=hrow
 unfold Own
 rw [e1]
 refine ⟨by simp,?_⟩
 rcases r2 with ⟨h1,h2⟩|⟨g',cap,cur,h1,h2,h3⟩
 ·exact .inl ⟨h1,by simp [h2]⟩
 ·refine .inr ⟨g',cap,cur,?_,Nat.le_trans hb0.size h2,?_⟩
  ·rw [h1];simp
  ·simpa using h3
theorem hc_sorted (ks:List ByteArray) (hnd:ks.Nodup) (hl:ks.length≤1000000) (hs:∀k∈ks,k.size≤1000000000) (id:Nat):HCalls Tryz.prog 112 [.mref id] [] [(id,smL ks)] (pstrs (sortS ks)) [] [(id,smL ks)]:=by
 refine ⟨by kernel_rfl,fun Φ μ ω w vs himm hgl hrep _ hgm hlt=>?_⟩
 have hl1:=hrep.1
 match vs,hl1 with
 | [v],_=>
 obtain ⟨g,hg,rfl⟩:=(hrep.2 0 _ v rfl rfl).mref_inv
 obtain ⟨g',h1,h2,h3,h4,h5⟩:=hgm (id,smL ks) (by simp)
 simp only at h1 h3 h4 h5
 rw [hg] at h1
 cases h1
 obtain ⟨hst,ents,hh,hsz,hent⟩:=h5
 rw [smE_len] at hsz
 have hlt':=hlt g _ h3
 have he:∀(j:Nat) k,ks[j]? = some k→∃e,ents[j]? = some e∧e.born=j∧e.key = .string k:=fun j k hk=>by
  obtain ⟨e,e1,e2,e3,-⟩:=hent j _ _ _ (smE_get hk)
  obtain ⟨e4,-⟩:=e3.val_inv
  exact ⟨e,e1,e2,e4⟩
 refine (sorted_calls hh hsz hnd hl hs he).mono ?_
 rintro e w' ⟨v,rfl,ho,hbl⟩
 obtain ⟨Φ',p1,p2,p3,-⟩:=own_rep himm (f:=Value.string) (fun _=>rfl) ho hbl
 have hgiv:Giv ω (ResIds [] [(id,smL ks)]) g:=⟨id,by simp [ResIds], .box id, .inl rfl,h3⟩
 have hΦ:∀b o u,Φ b o=some u→Φ' b o=some u:=fun b o u e=>by
  rw [p2 b o (World.block_lt_of_cell? _ _ (himm b o u e))];exact e
 refine ⟨v,Φ',fun i=>if i=id then μ i else none,fun g' => if g' = g then some (.box id) else none,rfl,?_,p1,hΦ,fun b o hb _=>p2 b o hb,⟨hbl.os,hbl.tape,hbl.output,hbl.size,fun k hk=>hbl.block k hk.1⟩,fun i hi=>?_,fun i g' e=>?_,fun x hx=>by simp at hx,fun x hx=>?_,fun g' p e=>?_,fun n k cs E e=>by cases e⟩
 ·exact (p3.mono (fun _ _ _ h=>h) (fun i g h=>by simp [mu0] at h)).bare
 ·simp [ResIds] at hi;subst hi;simp
 ·by_cases hi:i=id
  ·subst hi;simp [ResIds]
  ·simp [hi] at e
 ·simp only [List.mem_cons,List.not_mem_nil,or_false] at hx
  subst hx
  refine ⟨g,by simp [hg], .inr hgiv,by simp,fun j=>by rw [p2 g j hlt'];exact h4 j,hst,ents,by rw [hbl.block g hlt'];exact hh,by rw [smE_len];exact hsz,fun j s k c hj=>?_⟩
  obtain ⟨e,e1,e2,e3,e4,-⟩:=hent j s k c hj
  obtain ⟨y,hy,he2⟩:∃y,ks[j]? = some y∧(s,k,c)=(j,pstr y,pbool true):=by
   have hjl:j < ks.length:=by
    have:=(List.getElem?_eq_some_iff.1 hj).1
    rwa [smE_len] at this
   refine ⟨ks[j],List.getElem?_eq_getElem hjl,?_⟩
   rw [smE_get (List.getElem?_eq_getElem hjl)] at hj
   exact (Option.some.inj hj).symm
  cases he2
  obtain ⟨e5,-⟩:=e3.val_inv
  obtain ⟨e6,-⟩:=e4.val_inv
  exact ⟨e,e1,e2,by rw [e5];exact .val _ rfl,by rw [e6];exact .val _ rfl,fun n kk cs E ec=>by cases ec⟩
 ·by_cases hg' : g' = g
  ·subst hg'
   exact ⟨Nat.lt_of_lt_of_le hlt' hbl.size, .inr hgiv⟩
  ·simp [hg'] at e
end Go.Proofs.YtoamkpgaaanafaaGreat

/- zone: fieldOf. -/
namespace Go.Proofs.YtoamkpgaaanafaaGreat
set_option linter.unusedSimpArgs false
set_option linter.unusedVariables false
set_option linter.unnecessarySimpa false
open Go.RowKit
structure FSt where
 has:Int
 lo:Int
 hi:Int
 ks:List ByteArray
noncomputable def fldStep (d:PDef) (st:FSt) (e:PEntry):FSt:=
 if (getA e.attrs d.name).2=false then st
 else ⟨st.has+1,min (if st.has=0 then (getA e.attrs d.name).1.n else st.lo) (getA e.attrs d.name).1.n,max (if st.has=0 then (getA e.attrs d.name).1.n else st.hi) (getA e.attrs d.name).1.n,
  if d.kind=2 then addK st.ks (getA e.attrs d.name).1.s else st.ks⟩
noncomputable def fldSt (d:PDef) (l:List PEntry):FSt:=l.foldl (fldStep d) ⟨0,0,0,[]⟩
noncomputable def fieldOfP (d:PDef) (l:List PEntry):PField:=⟨(fldSt d l).has,(fldSt d l).lo,(fldSt d l).hi,sortS (fldSt d l).ks⟩
theorem fldSt_succ {d:PDef} {l:List PEntry} {k:Nat} (h:k < l.length):fldSt d (l.take (k+1))=fldStep d (fldSt d (l.take k)) (l.getD k default):=by
 unfold fldSt
 rw [List.take_add_one,List.foldl_append,List.getElem?_eq_getElem h]
 simp [h]
theorem getA_size {l:List PAttr} {nm:ByteArray} (h:∀a∈l,a.s.size≤1000000000):(getA l nm).1.s.size≤1000000000:=by
 induction l with
 |nil=>simp [getA,zeroA]
 |cons a r ih=>
  unfold getA
  split
  ·exact h a (by simp)
  ·exact ih fun x hx=>h x (by simp [hx])
def FOK (st:FSt) (k:Nat):Prop:=0≤st.has∧st.has≤k∧st.ks.Nodup∧st.ks.length≤k∧∀x∈st.ks,x.size≤1000000000
theorem fldStep_ok {d:PDef} {st:FSt} {e:PEntry} {k:Nat} (h:FOK st k) (he:∀a∈e.attrs,a.s.size≤1000000000):FOK (fldStep d st e) (k+1):=by
 obtain ⟨h1,h2,h3,h4,h5⟩:=h
 unfold fldStep
 split
 ·exact ⟨h1,by omega,h3,by omega,h5⟩
 ·refine ⟨by simp only;omega,by simp only;omega,?_,?_,?_⟩
  ·simp only;split
   ·exact addK_nodup _ h3
   ·exact h3
  ·simp only;split
   ·have:=addK_len st.ks (getA e.attrs d.name).1.s;omega
   ·omega
  ·simp only;split
   ·intro x hx
    rcases addK_mem.1 hx with h|rfl
    ·exact h5 x h
    ·exact getA_size he
   ·exact h5
theorem fldSt_ok {d:PDef} {l:List PEntry} (he:∀k,k < l.length→∀a∈(l.getD k default).attrs,a.s.size≤1000000000):∀k,k≤l.length→FOK (fldSt d (l.take k)) k
 |0,_=>⟨by simp [fldSt],by simp [fldSt],by simp [fldSt],by simp [fldSt],by simp [fldSt]⟩
 |k+1,h=>by
  rw [fldSt_succ (by omega)]
  exact fldStep_ok (fldSt_ok he k (by omega)) (he k (by omega))
def fstL (st:FSt):List PV := [pint st.has,pint st.lo,pint st.hi, .nilsl]
theorem low_fstL (st:FSt):∀c∈fstL st,Low c:=by
 intro c hc
 simp only [fstL,List.mem_cons,List.not_mem_nil,or_false] at hc
 rcases hc with rfl|rfl|rfl|rfl
 ·exact .val _
 ·exact .val _
 ·exact .val _
 ·exact .nilsl
set_option maxRecDepth 10000 in
set_option maxHeartbeats 4000000 in
theorem pw_fieldOf (d:PDef) (l:List PEntry) (hl:l.length≤1000000) (ha:∀k,k < l.length→(l.getD k default).attrs.length≤1000000) (he:∀k,k < l.length→∀a∈(l.getD k default).attrs,a.s.size≤1000000000):PCalls Tryz.prog 60 [.agg (pdefL d),pentries l] (· = pfld (fieldOfP d l)):=by
 have hld:=low_pdefL d
 have hld1:Low (.ep (pdefL d) 0):=.ep _ _ hld
 have hlow:∀x,Low (pentries x):=fun x=>(low_pentries x).2 trivial
 have hlf:=low_fstL
 have hf0:=low_fstL ⟨0,0,0,[]⟩
 have hf1:=low_fstL (fldSt d (l.take 0))
 have hlowm:∀ks,∀e∈smE ks,Low e.2.1∧Low e.2.2:=fun ks e h=>by
  obtain ⟨x,-,rfl⟩:=List.mem_map.1 h
  exact ⟨.val _, .val _⟩
 refine pcalls_of_pw typeTab_ok Tryz.func60 rfl (by kernel_rfl) (by simp [low_pdef,low_pentries]) (by simp [pdefL,pentries,PV.ownB]) (by rw [Tryz.ntmps60];simp) ?_
 rw [Tryz.ntmps60,Tryz.results60]
 refine PW.seq ?_
 refine PW.region typeTab_ok (by kernel_rfl) ?_
 refine wg ?_
 refine PW.freezeP (id:=0) (s:=2) (off:=0) (σ':=(((bot.setb 1 (fstL ⟨0,0,0,[]⟩)).put 1 (pentries l)).put 4 (.ptr 1 0))) rfl rfl hld (by exact sbr0) rfl ?_
 refine wk ?_
 refine PWops.mkMG rfl rfl rfl rfl ?_
 refine wk ?_
 refine PW.loop (fun k:Nat=>(((((((((((bot.setb 1 (fstL ⟨0,0,0,[]⟩)).setb 1000 (fstL (fldSt d (l.take k)))).setm 2000 (smL (fldSt d (l.take k)).ks)).put 2 (.ep (pdefL d) 0)).put 4 (.ptr 1 0)).put 5 (.ptr 1000 0)).put 6 (.mref 2000)).put 12 (pentries l)).put 13 (pint l.length)).put 14 (pint k)))) (fun k=>k≤l.length) (fun k=>l.length - k) 0 (by omega) ?_ ?_
 ·exact sb
 ·intro k hk
  have hf1:=low_fstL (fldSt d (l.take k))
  obtain ⟨o1,o2,o3,o4,o5⟩:=fldSt_ok (d:=d) he k hk
  by_cases hlt:k < l.length
  ·have p1:=pcGet (l.getD k default).attrs d.name (ha k hlt)
   have hst:=fldSt_succ (d:=d) hlt
   have hle:=low_entCells (l.getD k default)
   have hla:=low_pattrL2 (getA (l.getD k default).attrs d.name).1
   generalize fldSt d (l.take k)=st at *
   have hlf1:=low_fstL (fldSt d (l.take (k+1)))
   cases q0:(getA (l.getD k default).attrs d.name).2 with
   |false=>
    rw [q0] at p1
    have hst' : fldSt d (l.take (k+1))=st:=by rw [hst,fldStep,if_pos q0]
    refine wk ?_
    refine loopP (k+1) (by omega) (by omega) ?_
    rw [hst'] at hlf1
    simp only [hst']
    exact sb
   |true=>
    rw [q0] at p1
    refine wk ?_
    by_cases q1:st.has=0
    ·refine wg ?_
     refine PW.drawE typeTab_ok (by kernel_rfl) (by kernel_rfl) (by kernel_rfl) ?_
     refine wg ?_
     refine PW.drawE typeTab_ok (by kernel_rfl) (by kernel_rfl) (by kernel_rfl) ?_
     refine wg ?_
     simp only [Bool.false_eq_true,if_false,if_true,ite_self]
     by_cases q2:d.kind=2
     ·have hst' : fldSt d (l.take (k+1))=⟨st.has+1,(getA (l.getD k default).attrs d.name).1.n,(getA (l.getD k default).attrs d.name).1.n,addK st.ks (getA (l.getD k default).attrs d.name).1.s⟩:=by
       rw [hst,fldStep,if_neg (by rw [q0];decide),if_pos q2]
       simp only [q1,if_true,if_false,Int.min_self,Int.max_self]
      refine wk ?_
      refine PWops.mput rfl rfl rfl rfl rfl rfl rfl rfl rfl rfl rfl rfl (sm_mput _ _ rfl) ?_
      refine wk ?_
      refine loopP (k+1) (by omega) (by omega) ?_
      rw [hst'] at hlf1
      simp only [hst']
      exact sb
     ·have hst' : fldSt d (l.take (k+1))=⟨st.has+1,(getA (l.getD k default).attrs d.name).1.n,(getA (l.getD k default).attrs d.name).1.n,st.ks⟩:=by
       rw [hst,fldStep,if_neg (by rw [q0];decide),if_neg q2]
       simp only [q1,if_true,if_false,Int.min_self,Int.max_self]
      refine wk ?_
      refine loopP (k+1) (by omega) (by omega) ?_
      rw [hst'] at hlf1
      simp only [hst']
      exact sb
    ·refine wg ?_
     refine PW.drawE typeTab_ok (by kernel_rfl) (by kernel_rfl) (by kernel_rfl) ?_
     refine wg ?_
     simp only [Bool.false_eq_true,if_false,if_true]
     rw [show (if (getA (l.getD k default).attrs d.name).1.n < st.lo then (getA (l.getD k default).attrs d.name).1.n else st.lo)=min st.lo (getA (l.getD k default).attrs d.name).1.n from by split<;>omega,show (if (getA (l.getD k default).attrs d.name).1.n > st.hi then (getA (l.getD k default).attrs d.name).1.n else st.hi)=max st.hi (getA (l.getD k default).attrs d.name).1.n from by split<;>omega]
     by_cases q2:d.kind=2
     ·have hst' : fldSt d (l.take (k+1))=⟨st.has+1,min st.lo (getA (l.getD k default).attrs d.name).1.n,max st.hi (getA (l.getD k default).attrs d.name).1.n,addK st.ks (getA (l.getD k default).attrs d.name).1.s⟩:=by
       rw [hst,fldStep,if_neg (by rw [q0];decide),if_pos q2]
       simp only [q1,if_true,if_false,Int.min_self,Int.max_self]
      refine wk ?_
      refine PWops.mput rfl rfl rfl rfl rfl rfl rfl rfl rfl rfl rfl rfl (sm_mput _ _ rfl) ?_
      refine wk ?_
      refine loopP (k+1) (by omega) (by omega) ?_
      rw [hst'] at hlf1
      simp only [hst']
      exact sb
     ·have hst' : fldSt d (l.take (k+1))=⟨st.has+1,min st.lo (getA (l.getD k default).attrs d.name).1.n,max st.hi (getA (l.getD k default).attrs d.name).1.n,st.ks⟩:=by
       rw [hst,fldStep,if_neg (by rw [q0];decide),if_neg q2]
       simp only [q1,if_true,if_false,Int.min_self,Int.max_self]
      refine wk ?_
      refine loopP (k+1) (by omega) (by omega) ?_
      rw [hst'] at hlf1
      simp only [hst']
      exact sb
  ·have hkk:k=l.length:=by omega
   have hfin:fieldOfP d l=⟨(fldSt d (l.take k)).has,(fldSt d (l.take k)).lo,(fldSt d (l.take k)).hi,sortS (fldSt d (l.take k)).ks⟩:=by
    rw [hkk,List.take_length];rfl
   rw [hfin]
   generalize fldSt d (l.take k)=st at *
   have H:=hc_sorted st.ks o3 (by omega) o5 2000
   refine wk ?_
   exact retP (r:=pfld ⟨st.has,st.lo,st.hi,sortS st.ks⟩) rfl ((low_pfld _).2 trivial) rfl
end Go.Proofs.YtoamkpgaaanafaaGreat

/- Plain laws of attributes and schemas. -/
namespace Go.Proofs.YtoamkpgaaanafaaGreat
set_option linter.unusedSimpArgs false
set_option linter.unusedVariables false
set_option linter.unnecessarySimpa false
open Go Go.RowKit
theorem bl_irrefl:∀a:List UInt8,Op.bytesLess a a=false
 | []=>rfl
 |a :: x=>by simp [Op.bytesLess,bl_irrefl x]
theorem bl_trans:∀a b c:List UInt8,Op.bytesLess a b=true→Op.bytesLess b c=true→Op.bytesLess a c=true
 |_,[],c,h,_=>by cases ‹List UInt8› <;> simp [Op.bytesLess] at h
 |_,b :: y,[],_,h=>by simp [Op.bytesLess] at h
 | [],b :: y,c :: z,_,_=>by simp [Op.bytesLess]
 |a :: x,b :: y,c :: z,h,k=>by
  simp only [Op.bytesLess,Bool.or_eq_true,Bool.and_eq_true,decide_eq_true_eq,beq_iff_eq] at h k ⊢
  rcases h with h|⟨rfl,h⟩
  ·rcases k with k|⟨rfl,k⟩
   ·exact .inl (UInt8.lt_trans h k)
   ·exact .inl h
  ·rcases k with k|⟨rfl,k⟩
   ·exact .inl k
   ·exact .inr ⟨rfl,bl_trans x y z h k⟩
theorem bl_total:∀a b:List UInt8,Op.bytesLess a b=false→a≠b→Op.bytesLess b a=true
 | [],[],_,h=>absurd rfl h
 | [],b :: y,h,_=>by simp [Op.bytesLess] at h
 |a :: x,[],_,_=>by simp [Op.bytesLess]
 |a :: x,b :: y,h,hne=>by
  simp only [Op.bytesLess,Bool.or_eq_false_iff,decide_eq_false_iff_not,Bool.and_eq_false_iff,Bool.or_eq_true,Bool.and_eq_true,decide_eq_true_eq,beq_iff_eq] at h ⊢
  by_cases e:a=b
  ·subst e
   refine .inr ⟨rfl,bl_total x y ?_ (fun e=>hne (e ▸ rfl))⟩
   rcases h.2 with h2|h2
   ·simp at h2
   ·exact h2
  ·left
   have:=h.1
   have h3:¬a.toNat=b.toNat:=fun h=>e (UInt8.toNat_inj.1 h)
   rw [UInt8.lt_iff_toNat_lt] at this ⊢
   omega
def ltB (a b:ByteArray):Prop:=Op.bytesLess a.toList b.toList=true
theorem ltB_trans {a b c:ByteArray} (h:ltB a b) (k:ltB b c):ltB a c:=bl_trans _ _ _ h k
theorem ltB_ne {a b:ByteArray} (h:ltB a b):eqB a b=false:=by
 cases e:eqB a b with
 |false=>rfl
 |true=>
  simp only [eqB,beq_iff_eq] at e
  unfold ltB at h
  rw [e,bl_irrefl] at h;cases h
theorem leqB_false {x p:ByteArray} : leqB x p=false↔ltB p x:=by
 unfold leqB ltB
 rw [Bool.or_eq_false_iff]
 constructor
 ·rintro ⟨h1,h2⟩
  exact bl_total _ _ h1 (by simpa using h2)
 ·intro h
  refine ⟨?_,?_⟩
  ·cases e:Op.bytesLess x.toList p.toList with
   |false=>rfl
   |true=>have:=bl_trans _ _ _ h e;rw [bl_irrefl] at this;cases this
  ·have:=ltB_ne h
   rw [eqB_comm] at this;exact this
structure DefsOk (b:ByteArray) (ds:List PDef):Prop where
 one:∀d∈ds,nameB d.name=true∧(d.kind=1∨d.kind=2)∧ltB b d.name
 rise:ds.Pairwise fun d e=>ltB d.name e.name
theorem defE_ok {d:PDef} {b:ByteArray} (h:defE d b=0):nameB d.name=true∧(d.kind=1∨d.kind=2)∧ltB b d.name:=by
 unfold defE at h
 split at h
 ·simp at h
 ·rename_i h1
  split at h
  ·simp at h
  ·rename_i h2
   refine ⟨by simpa using h1,?_,leqB_false.1 (by simpa using h2)⟩
   split at h
   ·left;assumption
   ·split at h
    ·right;assumption
    ·simp at h
theorem defsE_ok:∀(ds:List PDef) (b:ByteArray),defsE b ds=0→DefsOk b ds
 | [],b,_=>⟨by simp, .nil⟩
 |d :: r,b,h=>by
  rw [defsE] at h
  split at h
  ·rename_i h1;exact absurd h h1
  ·rename_i h1
   obtain ⟨k1,k2,k3⟩:=defE_ok (by simpa using h1)
   have ih:=defsE_ok r d.name h
   refine ⟨fun e he=>?_,?_⟩
   ·rcases List.mem_cons.1 he with rfl|he
    ·exact ⟨k1,k2,k3⟩
    ·obtain ⟨i1,i2,i3⟩:=ih.one e he
     exact ⟨i1,i2,ltB_trans k3 i3⟩
   ·rw [List.pairwise_cons]
    exact ⟨fun e he=>(ih.one e he).2.2,ih.rise⟩
theorem checkE_ok {s:PSchema} (h:checkE s=0):DefsOk ByteArray.empty s.defs:=by
 unfold checkE at h
 split at h
 ·simp at h
 ·split at h
  ·simp at h
  ·exact defsE_ok _ _ h
/- The place of a name. -/
theorem findI_get {ds:List PDef} {nm:ByteArray} (h:0≤findI ds nm):∃d,ds[(findI ds nm).toNat]? = some d:=by
 have:=idxB_lt (ds.map fun (d:PDef)=>eqB d.name nm) (by unfold findI at h;exact h)
 rw [List.length_map] at this
 have hlt:(findI ds nm).toNat < ds.length:=by unfold findI at h ⊢; omega
 exact ⟨_,List.getElem?_eq_getElem hlt⟩
theorem idxGo_true:∀(l:List Bool) (k:Int),idxGo l k ≠ -1→0≤k→l[(idxGo l k - k).toNat]? = some true
 | [],k,h,_=>by simp [idxGo] at h
 |b :: r,k,h,hk=>by
  rw [idxGo] at h ⊢
  cases b with
  |true=>simp
  |false=>
   simp only [Bool.false_eq_true,if_false] at h ⊢
   have ih:=idxGo_true r (k+1) h (by omega)
   have hb:=idxGo_bd r (k+1) (by omega)
   rcases hb with ⟨e,-⟩|⟨e,-,-⟩
   ·exact absurd e h
   ·rw [show (idxGo r (k+1) - k).toNat=(idxGo r (k+1) - (k+1)).toNat+1 by omega,List.getElem?_cons_succ]
    exact ih
theorem findI_name {ds:List PDef} {nm:ByteArray} (h:0≤findI ds nm) {d:PDef} (hd:ds[(findI ds nm).toNat]? = some d):eqB d.name nm=true:=by
 have:=idxGo_true (ds.map fun d=>eqB d.name nm) 0 (by unfold findI idxB at h;omega) (by omega)
 rw [Int.sub_zero] at this
 unfold findI idxB at hd
 rw [List.getElem?_map,hd] at this
 simpa using this
/- Attributes that fit. -/
def one (ds:List PDef) (a:PAttr):Prop:=0≤findI ds a.name∧(match ds[(findI ds a.name).toNat]? with|some d=>valueE d a|none=>0)=0
theorem fits_first {b:ByteArray} {ds:List PDef} (hd:DefsOk b ds) (hb:b=ByteArray.empty) (l:List PAttr):fitsGo ds b false l=fitsGo ds b true l:=by
 cases l with
 |nil=>rfl
 |cons a r=>
  have:fitE ds b false a=fitE ds b true a:=by
   unfold fitE
   by_cases h1:findI ds a.name < 0
   ·rw [if_pos h1,if_pos h1]
   ·rw [if_neg h1,if_neg h1]
    obtain ⟨d,hd'⟩:=findI_get (show 0≤findI ds a.name by omega)
    have hn:=findI_name (by omega) hd'
    have hm:=(hd.one d (mem_of_get' hd')).2.2
    have e:d.name.toList=a.name.toList:=by simpa [eqB] using hn
    have:leqB a.name b=false:=leqB_false.2 (by unfold ltB at hm ⊢; rw [←e];exact hm)
    simp [this]
  rw [fitsGo,fitsGo,this]
where
 mem_of_get' {α:Type} {l:List α} {j:Nat} {c:α} (h:l[j]? = some c):c∈l:=List.mem_of_getElem? h
/- An attribute found by its name. -/
/- Entries. -/
theorem entryA_E {s:PSchema} (h:checkE s=0) (e:PEntry):entryA s e=entryE s e:=by
 have hf:fitsGo s.defs ByteArray.empty false e.attrs=fitsE s e.attrs:=fits_first (checkE_ok h) rfl _
 have h1:idBad e=decide (e.id < 1∨1073741824 < e.id∨e.owner < 1∨1073741824 < e.owner∨e.ver < 1∨1073741824 < e.ver):=by
  simp only [idBad,Bool.decide_or]
 have h2:(fromBad e || (toBad e || bornBad e))=decide (e.filed < 0∨e.frm < e.filed∨e.to≤e.frm∨1048577 < e.to∨1048576 < e.frm∨e.born < 1∨1073741824 < e.born):=by
  rw [Bool.eq_iff_iff]
  simp only [fromBad,toBad,bornBad,Bool.or_eq_true,decide_eq_true_eq]
  constructor<;>intro h<;>omega
 have h3:vecBad s e=decide (validV e.vec=false∨(e.vec.length:Int)≠s.dims):=by
  rw [Bool.eq_iff_iff]
  simp only [vecBad,Bool.or_eq_true,bne_iff_ne,Bool.not_eq_true',decide_eq_true_eq]
  exact ⟨fun h=>h.symm,fun h=>h.symm⟩
 unfold entryA entR entryE
 rw [hf]
 simp only [firstE,h1,h3]
 by_cases g1:e.id < 1∨1073741824 < e.id∨e.owner < 1∨1073741824 < e.owner∨e.ver < 1∨1073741824 < e.ver
 ·simp [g1]
 ·rw [if_neg g1]
  simp only [g1,decide_false,Bool.false_eq_true,if_false]
  by_cases g2:e.filed < 0∨e.frm < e.filed∨e.to≤e.frm∨1048577 < e.to∨1048576 < e.frm∨e.born < 1∨1073741824 < e.born
  ·rw [if_pos g2]
   rw [decide_eq_true g2] at h2
   simp only [Bool.or_eq_true] at h2
   cases ha:fromBad e<;>cases hb:toBad e<;>cases hc:bornBad e<;>simp_all
  ·rw [if_neg g2]
   rw [decide_eq_false g2] at h2
   simp only [Bool.or_eq_false_iff] at h2
   simp only [h2.1,h2.2.1,h2.2.2,Bool.false_eq_true,if_false]
   by_cases g3:validV e.vec=false∨(e.vec.length:Int)≠s.dims
   ·simp [g3]
   ·simp [g3]
end Go.Proofs.YtoamkpgaaanafaaGreat

/- Ascending lists of words; their sets; what is merged of two (no program). -/
namespace Go.Proofs.YtoamkpgaaanafaaGreat
set_option linter.unusedSimpArgs false
set_option linter.unusedVariables false
set_option linter.unnecessarySimpa false
open Go.RowKit
theorem bl_lt:∀a b:List UInt8,Op.bytesLess a b=true↔a < b
 |a,[]=>by cases a<;>simp [Op.bytesLess]
 | [],b :: y=>by simp [Op.bytesLess]
 |a :: x,b :: y=>by
  simp only [Op.bytesLess,Bool.or_eq_true,Bool.and_eq_true,decide_eq_true_eq,beq_iff_eq,List.cons_lt_cons_iff,bl_lt x y]
theorem ltB_iff (a b:ByteArray):ltB a b↔a.data.toList < b.data.toList:=by
 unfold ltB
 rw [ByteArray.toList_eq,ByteArray.toList_eq,bl_lt]
theorem ltB_irrefl (a:ByteArray):¬ltB a a:=fun h=>by
 unfold ltB at h
 rw [bl_irrefl] at h;cases h
theorem ltB_total (a b:ByteArray):ltB a b∨a=b∨ltB b a:=by
 by_cases h:ltB a b
 ·exact .inl h
 ·by_cases e:a=b
  ·exact .inr (.inl e)
  ·refine .inr (.inr (bl_total _ _ ?_ fun h2=>e ?_))
   ·unfold ltB at h;simpa using h
   ·rw [ByteArray.toList_eq,ByteArray.toList_eq] at h2
    exact ba_ext h2
def Asc (l:List ByteArray):Prop:=l.Pairwise ltB
theorem Asc.nodup {l:List ByteArray} (h:Asc l):l.Nodup:=List.Pairwise.imp (fun {a b} hab e=>by subst e;exact ltB_irrefl a hab) h
theorem asc_nil:Asc []:=.nil
theorem asc_one (a:ByteArray):Asc [a]:=List.pairwise_singleton _ _
theorem sortS_asc {ks:List ByteArray} (h:ks.Nodup):Asc (sortS ks):=by
 have tr:∀a b c:List UInt8,leB a b=true→leB b c=true→leB a c=true:=fun a b c h1 h2=>by simp only [leB,decide_eq_true_eq] at *; exact List.le_trans h1 h2
 have to:∀a b:List UInt8,(leB a b || leB b a)=true:=fun a b=>by simp only [leB,Bool.or_eq_true,decide_eq_true_eq];exact List.le_total a b
 have h1:=List.pairwise_mergeSort tr to (ks.map fun k=>k.data.toList)
 have h2:(sortS ks).Pairwise fun a b=>leB a.data.toList b.data.toList=true:=by
  unfold sortS
  rw [List.pairwise_map]
  exact h1.imp (fun {a b} hab=>by simpa using hab)
 have h3:(sortS ks).Nodup:=(sortS_perm ks).nodup_iff.2 h
 refine (List.Pairwise.and h2 h3).imp fun {a b} hab=>?_
 obtain ⟨p,q⟩:=hab
 rcases ltB_total a b with h|h|h
 ·exact h
 ·exact absurd h q
 ·exfalso
  rw [ltB_iff] at h
  simp only [leB,decide_eq_true_eq] at p
  exact p h
theorem Asc.ext {l m:List ByteArray} (h1:Asc l) (h2:Asc m) (h:∀x,x∈l↔x∈m):l=m:=by
 have hp:l.Perm m:=(List.perm_ext_iff_of_nodup h1.nodup h2.nodup).2 h
 exact hp.eq_of_pairwise (le:=ltB) (fun a b _ _ p q=>absurd (ltB_trans p q) (ltB_irrefl a)) h1 h2
theorem sortS_mem {ks:List ByteArray} {x:ByteArray} : x∈sortS ks↔x∈ks:=(sortS_perm ks).mem_iff
theorem sortS_eq {ks l:List ByteArray} (h:ks.Nodup) (ha:Asc l) (hm:∀x,x∈ks↔x∈l):sortS ks=l:=
 (sortS_asc h).ext ha fun x=>sortS_mem.trans (hm x)
noncomputable def setK (l:List ByteArray):List ByteArray:=l.foldl addK []
theorem foldl_addK (l:List ByteArray):∀ks:List ByteArray,ks.Nodup→(l.foldl addK ks).Nodup∧(∀x,x∈l.foldl addK ks↔x∈ks∨x∈l)∧(l.foldl addK ks).length≤ks.length+l.length:=by
 induction l with
 |nil=>intro ks h;simpa using h
 |cons a r ih=>
  intro ks h
  obtain ⟨h1,h2,h3⟩:=ih (addK ks a) (addK_nodup a h)
  refine ⟨h1,fun x=>?_,?_⟩
  ·rw [List.foldl_cons,h2,addK_mem,List.mem_cons]
   constructor
   ·rintro ((h|h)|h)<;>simp [h]
   ·rintro (h|h|h)<;>simp [h]
  ·rw [List.foldl_cons]
   have:=addK_len ks a
   simp only [List.length_cons];omega
theorem setK_nodup (l:List ByteArray):(setK l).Nodup:=(foldl_addK l [] .nil).1
theorem setK_mem {l:List ByteArray} {x:ByteArray} : x∈setK l↔x∈l:=by
 have:=(foldl_addK l [] .nil).2.1 x
 simpa [setK] using this
theorem setK_len (l:List ByteArray):(setK l).length≤l.length:=by
 have:=(foldl_addK l [] .nil).2.2
 simpa [setK] using this
theorem setK_take {l:List ByteArray} {k:Nat} (h:k < l.length):setK (l.take (k+1))=addK (setK (l.take k)) (l.getD k default):=by
 unfold setK
 rw [List.take_add_one,List.foldl_append,List.getElem?_eq_getElem h]
 simp [h]
theorem sortS_set {l:List ByteArray} (h:Asc l):sortS (setK l)=l:=sortS_eq (setK_nodup l) h fun _=>setK_mem
def mergeW:List ByteArray→List ByteArray→List ByteArray
 | [],b=>b
 |x :: a,[]=>x :: a
 |x :: a,y :: b=>if Op.bytesLess x.toList y.toList=true then x :: mergeW a (y :: b) else if x.toList == y.toList then y :: mergeW a b else y :: mergeW (x :: a) b
termination_by a b=>a.length+b.length
theorem mergeW_nil (a:List ByteArray):mergeW a []=a:=by cases a<;>simp [mergeW]
theorem toList_inj {a b:ByteArray} (h:a.toList=b.toList):a=b:=by
 rw [ByteArray.toList_eq,ByteArray.toList_eq] at h
 exact ba_ext h
theorem mergeW_spec:∀a b:List ByteArray,Asc a→Asc b→Asc (mergeW a b)∧∀x,x∈mergeW a b↔x∈a∨x∈b
 | [],b,_,hb=>⟨by rw [mergeW];exact hb,by simp [mergeW]⟩
 |x :: a,[],ha,_=>⟨by rw [mergeW];exact ha,by simp [mergeW]⟩
 |x :: a,y :: b,ha,hb=>by
  have ha':=List.pairwise_cons.1 ha
  have hb':=List.pairwise_cons.1 hb
  rw [mergeW]
  split
  ·rename_i h
   obtain ⟨i1,i2⟩:=mergeW_spec a (y :: b) ha'.2 hb
   refine ⟨List.pairwise_cons.2 ⟨fun z hz=>?_,i1⟩,fun z=>?_⟩
   ·rcases (i2 z).1 hz with h1|h1
    ·exact ha'.1 z h1
    ·rcases List.mem_cons.1 h1 with rfl|h1
     ·exact h
     ·exact ltB_trans h (hb'.1 z h1)
   ·rw [List.mem_cons,i2,List.mem_cons (a:=z) (b:=x),or_assoc]
  ·rename_i h
   split
   ·rename_i e
    have e' : x=y:=toList_inj (by simpa using e)
    subst e'
    obtain ⟨i1,i2⟩:=mergeW_spec a b ha'.2 hb'.2
    refine ⟨List.pairwise_cons.2 ⟨fun z hz=>?_,i1⟩,fun z=>?_⟩
    ·rcases (i2 z).1 hz with h1|h1
     ·exact ha'.1 z h1
     ·exact hb'.1 z h1
    ·simp only [List.mem_cons,i2]
     constructor
     ·rintro (h|h|h)<;>simp [h]
     ·rintro ((h|h)|h|h)<;>simp [h]
   ·rename_i e
    have hyx:ltB y x:=by
     rcases ltB_total x y with h1|h1|h1
     ·exact absurd h1 h
     ·subst h1;simp at e
     ·exact h1
    obtain ⟨i1,i2⟩:=mergeW_spec (x :: a) b ha hb'.2
    refine ⟨List.pairwise_cons.2 ⟨fun z hz=>?_,i1⟩,fun z=>?_⟩
    ·rcases (i2 z).1 hz with h1|h1
     ·rcases List.mem_cons.1 h1 with rfl|h1
      ·exact hyx
      ·exact ltB_trans hyx (ha'.1 z h1)
     ·exact hb'.1 z h1
    ·simp only [List.mem_cons,i2]
     constructor
     ·rintro (h|(h|h)|h)<;>simp [h]
     ·rintro ((h|h)|h|h)<;>simp [h]
termination_by a b=>a.length+b.length
theorem mergeW_len:∀a b:List ByteArray,(mergeW a b).length≤a.length+b.length
 | [],b=>by simp [mergeW]
 |x :: a,[]=>by simp [mergeW]
 |x :: a,y :: b=>by
  rw [mergeW]
  split
  ·have:=mergeW_len a (y :: b);simp only [List.length_cons] at *; omega
  ·split
   ·have:=mergeW_len a b;simp only [List.length_cons] at *; omega
   ·have:=mergeW_len (x :: a) b;simp only [List.length_cons] at *; omega
termination_by a b=>a.length+b.length
theorem sortS_two {a b:List ByteArray} (ha:Asc a) (hb:Asc b):sortS (setK (a ++ b))=mergeW a b:=by
 obtain ⟨h1,h2⟩:=mergeW_spec a b ha hb
 refine sortS_eq (setK_nodup _) h1 fun x=>?_
 rw [setK_mem,h2,List.mem_append]
theorem sortS_add {ks:List ByteArray} {s:ByteArray} (h:ks.Nodup):sortS (addK ks s)=mergeW (sortS ks) [s]:=by
 obtain ⟨h1,h2⟩:=mergeW_spec (sortS ks) [s] (sortS_asc h) (asc_one s)
 refine sortS_eq (addK_nodup s h) h1 fun x=>?_
 rw [addK_mem,h2,sortS_mem,List.mem_singleton]
theorem sortS_nil:sortS [] = []:=sortS_eq .nil asc_nil fun _=>Iff.rfl
theorem sortS_one (s:ByteArray):sortS [s] = [s]:=sortS_eq (by simp) (asc_one s) fun _=>Iff.rfl
end Go.Proofs.YtoamkpgaaanafaaGreat

/- zone: sums of fields (no program). -/
namespace Go.Proofs.YtoamkpgaaanafaaGreat
set_option linter.unusedSimpArgs false
set_option linter.unusedVariables false
set_option linter.unnecessarySimpa false
open Go.RowKit
def mnI (n y:Int):Int:=if y < n then y else n
def mxI (n y:Int):Int:=if y > n then y else n
theorem mnI_eq (n y:Int):mnI n y=min n y:=by unfold mnI;split<;>omega
theorem mxI_eq (n y:Int):mxI n y=max n y:=by unfold mxI;split<;>omega
def fldOne (d:PDef) (e:PEntry):PField:=if (getA e.attrs d.name).2=true then ⟨1,(getA e.attrs d.name).1.n,(getA e.attrs d.name).1.n,if d.kind=2 then [(getA e.attrs d.name).1.s] else []⟩ else ⟨0,0,0,[]⟩
def joinR (a b:PField):PField:=if a.has=0 then b else if b.has=0 then a else ⟨a.has+b.has,mnI a.lo b.lo,mxI a.hi b.hi,mergeW a.words b.words⟩
noncomputable def joinF (a b:PField):PField:=
 if a.has=0 then (if 0 < a.has then ⟨b.has+a.has,mnI b.lo a.lo,mxI b.hi a.hi,sortS (setK (b.words ++ a.words))⟩ else ⟨b.has,b.lo,b.hi,sortS (setK (b.words ++ a.words))⟩)
 else (if 0 < b.has then ⟨a.has+b.has,mnI a.lo b.lo,mxI a.hi b.hi,sortS (setK (a.words ++ b.words))⟩ else ⟨a.has,a.lo,a.hi,sortS (setK (a.words ++ b.words))⟩)
structure FieldOK (f:PField):Prop where
 has:0≤f.has
 none:f.has=0→f.lo=0∧f.hi=0∧f.words = []
 asc:Asc f.words
theorem joinF_R {a b:PField} (ha:FieldOK a) (hb:FieldOK b):joinF a b=joinR a b:=by
 unfold joinF joinR
 by_cases h1:a.has=0
 ·rw [if_pos h1,if_pos h1,if_neg (by omega),(ha.none h1).2.2,List.append_nil,sortS_set hb.asc]
 ·rw [if_neg h1,if_neg h1]
  by_cases h2:b.has=0
  ·rw [if_pos h2,if_neg (by omega),(hb.none h2).2.2,List.append_nil,sortS_set ha.asc]
  ·rw [if_neg h2,if_pos (by have:=hb.has;omega),sortS_two ha.asc hb.asc]
def FInv (st:FSt):Prop:=0≤st.has∧st.ks.Nodup∧(st.has=0→st.lo=0∧st.hi=0∧st.ks = [])
theorem fldStep_inv {d:PDef} {st:FSt} {e:PEntry} (h:FInv st):FInv (fldStep d st e):=by
 obtain ⟨h1,h2,h3⟩:=h
 unfold fldStep
 split
 ·exact ⟨h1,h2,h3⟩
 ·refine ⟨by simp only;omega,?_,fun h=>by simp only at h;omega⟩
  simp only;split
  ·exact addK_nodup _ h2
  ·exact h2
theorem foldl_inv {d:PDef} (l:List PEntry):∀st,FInv st→FInv (l.foldl (fldStep d) st):=by
 induction l with
 |nil=>exact fun st h=>h
 |cons a r ih=>exact fun st h=>ih _ (fldStep_inv h)
theorem fldSt_inv (d:PDef) (l:List PEntry):FInv (fldSt d l):=foldl_inv l _ ⟨by simp, .nil,fun _=>⟨rfl,rfl,rfl⟩⟩
theorem fieldOfP_nil (d:PDef):fieldOfP d []=⟨0,0,0,[]⟩:=by simp [fieldOfP,fldSt,sortS_nil]
theorem fieldOfP_snoc (d:PDef) (l:List PEntry) (e:PEntry):fieldOfP d (l ++ [e])=joinR (fieldOfP d l) (fldOne d e):=by
 have hi:=fldSt_inv d l
 have hs:fldSt d (l ++ [e])=fldStep d (fldSt d l) e:=by unfold fldSt;rw [List.foldl_append];rfl
 unfold fieldOfP
 rw [hs]
 generalize fldSt d l=st at *
 obtain ⟨h1,h2,h3⟩:=hi
 unfold fldStep fldOne joinR
 cases q:(getA e.attrs d.name).2 with
 |false=>
  by_cases z:st.has=0
  ·obtain ⟨a,b,c⟩:=h3 z
   simp [z,a,b,c,sortS_nil]
  ·simp [z]
 |true=>
  by_cases z:st.has=0
  ·obtain ⟨a,b,c⟩:=h3 z
   by_cases k:d.kind=2<;>simp [z,c,k,addK,sortS_nil,sortS_one]
  ·by_cases k:d.kind=2
   ·simp [z,k,sortS_add h2,mnI_eq,mxI_eq]
   ·simp [z,k,mergeW_nil,mnI_eq,mxI_eq]
theorem fieldOfP_one (d:PDef) (e:PEntry):fieldOfP d [e]=fldOne d e:=by
 have:=fieldOfP_snoc d [] e
 rw [fieldOfP_nil] at this
 simpa [joinR] using this
/- Sums. -/
def singleP (s:PSchema) (pv:List (List Int)) (e:PEntry):PSum:=⟨1,⟨e.vec,e.vec⟩,pv.map fun p=>⟨keyV s.metric p e.vec,keyV s.metric p e.vec⟩,e.frm,e.frm,e.to,e.born,e.born,s.defs.map fun d=>fldOne d e⟩
def zeroZ:PSum:=⟨0,⟨[],[]⟩,[],0,0,0,0,0,[]⟩
def joinSum (jf:PField→PField→PField) (s:PSchema) (a b:PSum):PSum×Int:=
 if a.shells.length≠b.shells.length then (zeroZ,1)
 else if 4096 < a.count+b.count then (zeroZ,2)
 else (⟨a.count+b.count,(boxJoin a.box b.box).1,(shJoin a.shells b.shells).1,mnI a.fromLo b.fromLo,mxI a.fromHi b.fromHi,mxI a.toHi b.toHi,mnI a.bornLo b.bornLo,mxI a.bornHi b.bornHi,(List.range s.defs.length).map fun k=>jf (a.fields.getD k default) (b.fields.getD k default)⟩,0)
theorem joinSum_eq {s:PSchema} {a b:PSum} (h:∀k,k < s.defs.length→FieldOK (a.fields.getD k default)∧FieldOK (b.fields.getD k default)):joinSum joinF s a b=joinSum joinR s a b:=by
 unfold joinSum
 split
 ·rfl
 ·split
  ·rfl
  ·congr 2
   exact List.map_congr_left fun k hk=>joinF_R (h k (by simpa using hk)).1 (h k (by simpa using hk)).2
structure TSt where
 fromLo:Int
 fromHi:Int
 toHi:Int
 bornLo:Int
 bornHi:Int
def tStep (t:TSt) (e:PEntry):TSt:=⟨mnI t.fromLo e.frm,mxI t.fromHi e.frm,mxI t.toHi e.to,mnI t.bornLo e.born,mxI t.bornHi e.born⟩
def tOne (e:PEntry):TSt:=⟨e.frm,e.frm,e.to,e.born,e.born⟩
def tK (l:List PEntry) (k:Nat):TSt:=(l.take k).foldl tStep (tOne (l.getD 0 default))
def tSt (l:List PEntry):TSt:=l.foldl tStep (tOne (l.getD 0 default))
noncomputable def ofL (s:PSchema) (pv:List (List Int)) (l:List PEntry):PSum:=
 ⟨l.length,(boxOf (l.map (·.vec))).1,if 0 < pv.length then (shellP s.metric pv (l.map (·.vec))).1 else [],(tSt l).fromLo,(tSt l).fromHi,(tSt l).toHi,(tSt l).bornLo,(tSt l).bornHi,s.defs.map fun d=>fieldOfP d l⟩
def wrongV (s:PSchema) (v:List Int):Bool := !vecB v || decide ((v.length:Int)≠s.dims)
noncomputable def zOf (s:PSchema) (pv:List (List Int)) (l:List PEntry):PSum×Int:=
 if checkE s≠0∨8 < pv.length∨pv.any (wrongV s)=true then (zeroZ,1)
 else if l.length=0∨(l.any fun e=>decide (entryA s e≠0))=true then (zeroZ,3)
 else if 4096 < l.length then (zeroZ,2)
 else (ofL s pv l,0)
def refL (s:PSchema) (pv:List (List Int)) (l:List PEntry):PSum:=(l.drop 1).foldl (fun z e=>(joinSum joinR s z (singleP s pv e)).1) (singleP s pv (l.getD 0 default))
def refOf (s:PSchema) (pv:List (List Int)) (l:List PEntry):PSum×Int:=
 if checkE s≠0∨8 < pv.length∨pv.any (wrongV s)=true then (zeroZ,1)
 else if (l.any fun e=>decide (entryE s e≠0))=true∨l.length=0 then (zeroZ,3)
 else if 4096 < l.length then (zeroZ,2)
 else (refL s pv l,0)
end Go.Proofs.YtoamkpgaaanafaaGreat
