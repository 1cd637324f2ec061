/- Out of: PwG, PwH, PwR, AttrM, AttrC, AttrE, AttrF, AttrJ, AttrK, StrA, Slices, AttrL, AttrS. -/
import Derived.WideLaws
import Derived.Laws.RangeAny
import Derived.Lib.OthersKept
import Derived.Outline
import Derived.Laws.EntriesVeiled
import Derived.Test.YtmeekbjhpidcgaaDoorG7
import Derived.Test.YtmeekbjhpidcgaaDoorG8
namespace Go.Proofs.YtmeekbjhpidcgaaDoor
set_option linter.unusedSimpArgs false
set_option linter.unusedVariables false
set_option linter.unnecessarySimpa false
section
open Go.RowKit
variable {Φ0:Ent} {W:World} {M:Nat} {Φ:Imm} {μ:Nat→Option Nat} {ω:Nat→Option Who} {σ:PS} {a:Act} {w:World} {P:Program} {T:Tab}
theorem RelG.kmu_upd (h:RelG Φ0 W M Φ μ ω σ a w) {id:Nat} {bs:List PV} (hb:σ.b id=some bs) (x:List PV):∀i g,Φ0.mu i=some g→(upd σ.b id (some x) i≠none∨σ.m i≠none)→μ i=some g:=fun i g e hi=>h.kmu i g e (by
 rcases hi with hi|hi
 ·left
  intro hn
  refine hi ?_
  have:i≠id:=by rintro rfl;rw [hb] at hn;cases hn
  simp only [upd_if,if_neg this];exact hn
 ·exact .inr hi)
theorem RelG.store (h:RelG Φ0 W M Φ μ ω σ a w) {id:Nat} {bs new:List PV} (hb:σ.b id=some bs) {off:Nat} {vs:List Value} (hn:CellsR Φ μ new vs) (hle:off+new.length≤bs.length) {g:Nat} (hg:μ id=some g) :
  ∃w',(storeCells ⟨g,off,none⟩ vs).run P w = .ok () w'∧RelG Φ0 W M Φ μ ω { σ with b:=upd σ.b id (some (splice bs off new)) } a w':=by
 obtain ⟨g',cur,Ty,h1,h2,h3,h4,h5,h6,h7⟩:=h.box id bs hb
 rw [hg] at h1;cases h1
 have hl:=hn.1.1
 have hcl:bs.length≤cur.toList.length:=by simpa using h6
 have hrun:=run_storeCells_at P g off Ty vs 0 cur w h2 (by omega) hn.2.1
 rw [Nat.add_zero] at hrun
 refine ⟨_,hrun,?_⟩
 have hlt:g < w.heap.size:=(Array.getElem?_eq_some_iff.1 h2).1
 have hmo:∀i X,σ.m i=some X→∀q,OfId i q→q≠.box id:=by
  rintro i X e q hq rfl
  rcases hq with hq|⟨j,hq⟩
  ·cases hq
   obtain ⟨g',k1,-,-,-,k5⟩:=h.map _ X e
   rw [hg] at k1;cases k1
   cases X with
   |map es clock=>obtain ⟨-,ents,k6,-⟩:=k5;rw [h2] at k6;cases k6
   |iter mid since seen last=>obtain ⟨gm,-,k6⟩:=k5;rw [h2] at k6;cases k6
  ·cases hq
 have hkeep:∀q:Who,q≠.box id→∀g',ω g' = some q→(w.setRow g (cur.toList.take off ++ vs ++ cur.toList.drop (off+vs.length)).toArray).heap[g']? = w.heap[g']?∧(∀j,Φ g' j=Φ g' j)∧ω g' = some q:=by
  intro q hq g' e
  refine ⟨setRow_other w g g' _ ?_,fun _=>rfl,e⟩
  rintro rfl
  rw [h4] at e;cases e;exact hq rfl
 refine ⟨?_,h.defers,h.size,?_,h.old,h.tmps,fun t n k cs E e=>(h.own t n k cs E e).step (hkeep _ (by simp)),?_,?_,fun g' p e=>by simpa using h.lt g' p e,h.gmu,h.kmu_upd hb _,h.ext,fun i X e=>(h.map i X e).step (fun _ _ _ e=>e) (fun _ _ e=>e) (fun q hq g' e' => hkeep q (hmo i X e q hq) g' e'),h.mine⟩
 ·exact h.below.trans ⟨rfl,rfl,rfl,by simp,fun k hk=>setRow_other w g k _ (h3.ne hk)⟩
 ·intro b o u e
  have hbg:b≠g:=by rintro rfl;rw [h5] at e;cases e
  have:=h.imm b o u e
  simp only [World.cell?] at this ⊢
  rw [setRow_other w g b _ hbg];exact this
 ·intro i bs' e
  by_cases hi:i=id
  ·subst hi
   simp only [upd_if,if_true] at e
   cases e
   have hbl:(splice bs off new).length=bs.length:=by simp only [splice,List.length_append,List.length_take,List.length_drop];omega
   refine ⟨g,_,Ty,hg,setRow_heap w g cur _ Ty _ h2,h3,h4,h5,by rw [hbl];simp only [List.size_toArray,List.length_append,List.length_take,List.length_drop,Array.length_toList];omega,?_⟩
   intro j c hc
   unfold splice at hc
   by_cases j1:j < off
   ·rw [List.append_assoc,List.getElem?_append_left (by rw [List.length_take];omega),List.getElem?_take,if_pos j1] at hc
    obtain ⟨u,r1,r2,r3,r4⟩:=h7 j c hc
    refine ⟨u,?_,r2,r3,fun n k cs E e=>(r4 n k cs E e).step (hkeep _ (by simp))⟩
    rw [List.getElem?_toArray,List.append_assoc,List.getElem?_append_left (by rw [List.length_take];omega),List.getElem?_take,if_pos j1]
    simpa using r1
   ·by_cases j2:j < off+new.length
    ·rw [List.append_assoc,List.getElem?_append_right (by rw [List.length_take];omega),List.length_take,List.getElem?_append_left (by omega),show min off bs.length=off by omega] at hc
     obtain ⟨u,hu,hru⟩:=hn.1.get hc
     refine ⟨u,?_,hn.2.1 u (mem_of_get hu),hru,fun n k cs E e=>?_⟩
     ·rw [List.getElem?_toArray,List.append_assoc,List.getElem?_append_right (by rw [List.length_take];omega),List.length_take,List.getElem?_append_left (by omega),show min off cur.toList.length=off by omega]
      exact hu
     ·have:=hn.2.2 c (mem_of_get hc)
      rw [e] at this;simp [PV.ownB] at this
    ·rw [List.getElem?_append_right (by rw [List.length_append,List.length_take];omega),List.length_append,List.length_take,List.getElem?_drop,show off+new.length+(j - (min off bs.length+new.length))=j by omega] at hc
     obtain ⟨u,r1,r2,r3,r4⟩:=h7 j c hc
     refine ⟨u,?_,r2,r3,fun n k cs E e=>(r4 n k cs E e).step (hkeep _ (by simp))⟩
     rw [List.getElem?_toArray,List.getElem?_append_right (by rw [List.length_append,List.length_take];omega),List.length_append,List.length_take,List.getElem?_drop,show off+vs.length+(j - (min off cur.toList.length+vs.length))=j by omega]
     simpa using r1
  ·simp only [upd_if,if_neg hi] at e
   obtain ⟨g2,cur2,T2,k1,k2,k3,k4,k5,k6,k7⟩:=h.box i bs' e
   have hne:(Who.box i)≠.box id:=by simp [hi]
   refine ⟨g2,cur2,T2,k1,by rw [(hkeep _ hne g2 k4).1];exact k2,k3,k4,k5,k6,fun j c hc=>?_⟩
   obtain ⟨u,r1,r2,r3,r4⟩:=k7 j c hc
   exact ⟨u,r1,r2,r3,fun n k cs E e=>(r4 n k cs E e).step (hkeep _ (by simp))⟩
 ·intro i e em
  by_cases hi:i=id
  ·subst hi;simp [upd_if] at e
  ·simp only [upd_if,if_neg hi] at e;exact h.gone i e em
theorem RelG.moveOwn (h:RelG Φ0 W M Φ μ ω σ a w) {s d:Nat} (hd:d < M) {n k:Nat} {cs:List PV} {E:TypeId} (hs:σ.t s = .sl n k cs (some E)) :
  ∃ω',RelG Φ0 W M Φ μ ω' { σ with t:=upd (upd σ.t s (σ.t s).bare) d (σ.t s) } (a.put (some d) (a.tmps.getD s undef)) w:=by
 have hd' : d < a.tmps.size:=by rw [h.size];exact hd
 have ho:=h.own s n k cs E hs
 have hr:=h.tmps s
 have key:∀ω' : Nat→Option Who,(∀g p,ω g=some p→p≠.tmp s→ω' g=some p)→(∀g p,ω' g=some p→g < w.heap.size∧Mine Φ0 W g)→OwnAt (Mine Φ0 W) Φ ω' w (.tmp d) n k E (a.tmps.getD s undef) →
   RelG Φ0 W M Φ μ ω' { σ with t:=upd (upd σ.t s (σ.t s).bare) d (σ.t s) } (a.put (some d) (a.tmps.getD s undef)) w:=by
  intro ω' hω hlt ho'
  have hstep:∀q n k E v,q≠.tmp s→OwnAt (Mine Φ0 W) Φ ω w q n k E v→OwnAt (Mine Φ0 W) Φ ω' w q n k E v:=fun q n k E v hq hh=>hh.step (fun g e=>⟨rfl,fun _=>rfl,hω g q e hq⟩)
  refine ⟨h.below,h.defers,by simp [Act.put,h.size],h.imm,h.old,fun t=>?_,fun t n' k' cs' E' e=>?_,fun id bs e=>?_,h.gone,fun g p e=>(hlt g p e).1,h.gmu,h.kmu,h.ext,fun id X e=>(h.map id X e).step (fun _ _ _ e=>e) (fun _ _ e=>e) (fun q hq g e=>⟨rfl,fun _=>rfl,hω g q e (by rintro rfl;rcases hq with hq|⟨j,hq⟩<;>cases hq)⟩),fun g p e=>(hlt g p e).2⟩
  ·rw [getD_put _ _ _ _ hd']
   simp only [upd_if]
   by_cases ht:t=d
   ·simp only [if_pos ht];exact hr
   ·simp only [if_neg ht]
    by_cases hts:t=s
    ·subst hts;simp only [if_true];exact hr.bare
    ·simp only [if_neg hts];exact h.tmps t
  ·rw [getD_put _ _ _ _ hd']
   simp only [upd_if] at e
   by_cases ht:t=d
   ·simp only [if_pos ht] at e ⊢
    rw [hs] at e;cases e
    subst ht;exact ho'
   ·simp only [if_neg ht] at e ⊢
    by_cases hts:t=s
    ·simp only [if_pos hts] at e
     have:=PV.bare_own (σ.t s);rw [e] at this;simp [PV.ownB] at this
    ·simp only [if_neg hts] at e
     exact hstep _ _ _ _ _ (by simp [hts]) (h.own t n' k' cs' E' e)
  ·obtain ⟨g,cur,Ty,h1,h2,h3,h4,h5,h6,h7⟩:=h.box id bs e
   refine ⟨g,cur,Ty,h1,h2,h3,hω g _ h4 (by simp),h5,h6,fun j c hc=>?_⟩
   obtain ⟨u,r1,r2,r3,r4⟩:=h7 j c hc
   exact ⟨u,r1,r2,r3,fun n k cs E e=>hstep _ _ _ _ _ (by simp) (r4 n k cs E e)⟩
 rcases ho with ⟨ho,hn⟩|⟨g,cap,cur,h1,h2,h3,h4,h5,h6,h7,h8⟩|ho
 rotate_left 2
 ·exact ⟨ω,key ω (fun g p e _=>e) (fun g p e=>⟨h.lt g p e,h.mine g p e⟩) (.inr (.inr ho))⟩
 ·exact ⟨ω,key ω (fun g p e _=>e) (fun g p e=>⟨h.lt g p e,h.mine g p e⟩) (.inl ⟨ho,hn⟩)⟩
 ·refine ⟨upd ω g (some (.tmp d)),key _ ?_ ?_ (.inr (.inl ⟨g,cap,cur,h1,h2,h3,h4,h5,h6,by simp [upd_if],h8⟩))⟩
  ·intro g' p e hp
   simp only [upd_if]
   rw [if_neg (by rintro rfl;rw [h7] at e;cases e;exact hp rfl)]
   exact e
  ·intro g' p e
   simp only [upd_if] at e
   split at e
   ·subst g'; exact ⟨(Array.getElem?_eq_some_iff.1 h3).1,h2⟩
   ·exact ⟨h.lt g' p e,h.mine g' p e⟩
theorem RelG.newOwn (h:RelG Φ0 W M Φ μ ω σ a w) {d:Nat} (hd:d < M) {N k cap:Nat} {L:List PV} {cur:Array Value} {e:TypeId} (hL:L.length=N * k) (hr:RepL Φ μ L (cur.toList.take (N * k))) (hN:N≤cap) (hcap:cap≤maxLen) (hcur:cur.size=cap * k) (hE:e < 1000000) :
  ∃Φ' ω',RelG Φ0 W M Φ' μ ω' (σ.put d (.sl N k L (some e))) (a.put (some d) (.slice (some ⟨w.heap.size,0,none⟩) N cap)) (w.alloc (.cells cur e))∧(∀b o u,Φ b o=some u→Φ' b o=some u):=by
 have hW:=h.below.size
 have hd' : d < a.tmps.size:=by rw [h.size];exact hd
 have h1:=h.row (cur.toList.take (N * k)).toArray e
 -- the same memory,but for the spare cells
 let Φ' : Imm:=immRow Φ w.heap.size (cur.toList.take (N * k)).toArray
 have hsub:∀b o u,Φ b o=some u→Φ' b o=some u:=by
  intro b o u e;show immRow _ _ _ b o=_;unfold immRow;rw [if_neg (by have:=h.fresh e;omega)];exact e
 have hrow:∀j,Φ' w.heap.size j=(cur.toList.take (N * k))[j]?:=by intro j;show immRow _ _ _ _ _=_;simp [immRow]
 have h2:RelG Φ0 W M Φ' μ ω σ a (w.alloc (.cells cur e)):=by
  refine h.grow (h.below.alloc _) ?_ ?_ hsub ?_ (by simp)
  ·intro b o u hu
   by_cases hb:b=w.heap.size
   ·subst hb
    rw [hrow,List.getElem?_take] at hu
    rw [cell_alloc_new]
    split at hu
    ·simpa using hu
    ·cases hu
   ·have hu' : Φ b o=some u:=by
     have:Φ' b o=Φ b o:=by show immRow _ _ _ b o=_;simp [immRow,hb]
     rw [←this];exact hu
    rw [cell_alloc_old _ _ _ _ (h.fresh hu')];exact h.imm b o u hu'
  ·intro b o hb;show immRow _ _ _ b o=_;unfold immRow;rw [if_neg (by have:=hb.1;omega)]
  ·intro g p hg
   have:=h.lt g p hg
   exact ⟨Below.heap_alloc _ _ _ this,fun j=>by show immRow _ _ _ g j=_;unfold immRow;rw [if_neg (by omega)]⟩
 refine ⟨Φ',upd ω w.heap.size (some (.tmp d)),?_,hsub⟩
 have hω:∀g p,ω g=some p→upd ω w.heap.size (some (.tmp d)) g=some p:=by
  intro g p e
  simp only [upd_if];rw [if_neg (by have:=h.lt g p e;omega)];exact e
 have hstep:∀q n k E v,OwnAt (Mine Φ0 W) Φ' ω (w.alloc (.cells cur e)) q n k E v→OwnAt (Mine Φ0 W) Φ' (upd ω w.heap.size (some (.tmp d))) (w.alloc (.cells cur e)) q n k E v:=fun q n k E v hh=>hh.step (fun g e=>⟨rfl,fun _=>rfl,hω g q e⟩)
 refine ⟨h2.below,h2.defers,by simp [Act.put,h.size],h2.imm,h2.old,fun t=>?_,fun t n' k' cs' E' et=>?_,fun id bs eb=>?_,h2.gone,?_,h2.gmu,h2.kmu,h2.ext,fun id X e=>(h2.map id X e).step (fun _ _ _ e=>e) (fun _ _ e=>e) (fun q _ g e=>⟨rfl,fun _=>rfl,hω g q e⟩),fun g p e=>?_⟩
 ·rw [getD_put _ _ _ _ hd']
  simp only [PS.put,upd_if]
  by_cases ht:t=d
  ·simp only [if_pos ht]
   refine .sl N k L _ w.heap.size 0 cap (fun j=>(cur.toList.take (N * k)).getD j undef) hL hN hcap (fun j hj=>?_) (fun j c hc=>?_)
   ·rw [Nat.zero_add,hrow]
    have:j < (cur.toList.take (N * k)).length:=by rw [hr.1];exact hj
    rw [List.getD_eq_getElem?_getD,List.getElem?_eq_getElem this];rfl
   ·exact (hr.mono hsub (fun _ _ e=>e)).us j c hc
  ·simp only [if_neg ht];exact h2.tmps t
 ·rw [getD_put _ _ _ _ hd']
  simp only [PS.put,upd_if] at et
  by_cases ht:t=d
  ·simp only [if_pos ht] at et ⊢
   cases et
   subst ht
   refine .inr (.inl ⟨w.heap.size,cap,cur,rfl, .inl hW,heap_alloc_new w _,hN,hcap,hcur,by simp [upd_if],hE,fun j hj=>?_⟩)
   rw [hrow,List.getElem?_eq_none (by rw [List.length_take];omega)]
  ·simp only [if_neg ht] at et ⊢
   exact hstep _ _ _ _ _ (h2.own t n' k' cs' E' et)
 ·obtain ⟨g,cur',Ty,h1,h2',h3,h4,h5,h6,h7⟩:=h2.box id bs eb
  refine ⟨g,cur',Ty,h1,h2',h3,hω g _ h4,h5,h6,fun j c hc=>?_⟩
  obtain ⟨u,r1,r2,r3,r4⟩:=h7 j c hc
  exact ⟨u,r1,r2,r3,fun n k cs E e=>hstep _ _ _ _ _ (r4 n k cs E e)⟩
 ·intro g p eg
  simp only [upd_if] at eg
  split at eg
  ·subst g;simp
  ·have:=h.lt g p eg;simp;omega
 ·simp only [upd_if] at e
  split at e
  ·subst g;exact .inl hW
  ·exact h2.mine g p e
theorem RelG.appendIn (h:RelG Φ0 W M Φ μ ω σ a w) {s d:Nat} (hd:d < M) {n m k cap g:Nat} {cs ds:List PV} {e:TypeId} {cur:Array Value} {news:List Value} (hs:σ.t s = .sl n k cs (some e))
  (hv:a.tmps.getD s undef = .slice (some ⟨g,0,none⟩) n cap) (hg:w.heap[g]? = some (.cells cur e (0,0))) (hroom:n+m≤cap) (hcur:cur.size=cap * k) (hω:ω g=some (.tmp s)) (hE:e < 1000000) (hfree:∀j,n * k≤j→Φ g j=none) (hB:Mine Φ0 W g) (hcap:cap≤maxLen)
  (hds:ds.length=m * k) (hn:RepL Φ μ ds news) :
  ∃Φ' ω',RelG Φ0 W M Φ' μ ω' { σ with t:=upd (upd σ.t s (σ.t s).bare) d (.sl (n+m) k (cs ++ ds) (some e)) } (a.put (some d) (.slice (some ⟨g,0,none⟩) (n+m) cap)) (w.setRow g (cur.toList.take (n * k) ++ news ++ cur.toList.drop (n * k+news.length)).toArray):=by
 have hd' : d < a.tmps.size:=by rw [h.size];exact hd
 have hr:=h.tmps s
 rw [hs,hv] at hr
 have hcs:cs.length=n * k:=by
  obtain ⟨_,_,_,_,_,_,_,_,h3,_⟩:=hr.sl_inv;exact h3
 have hnk:(n+m) * k≤cap * k:=Nat.mul_le_mul_right _ hroom
 rw [Nat.add_mul] at hnk
 have hnl:=hn.1
 -- the old cells
 have hold:RepL Φ μ cs (cur.toList.take (n * k)):=by
  refine ⟨by rw [List.length_take,Array.length_toList,hcs];omega,fun j c u hc hu=>?_⟩
  have hj:j < n * k:=by rw [←hcs];exact (List.getElem?_eq_some_iff.1 hc).1
  cases hr with
  |sl0=>rw [List.getElem?_nil] at hc;cases hc
  |sl _ _ _ _ _ _ _ us _ _ _ hp hrr=>
   have h1:=h.imm _ _ _ (hp j (by omega))
   rw [List.getElem?_take,if_pos hj] at hu
   simp only [World.cell?,hg,Nat.zero_add] at h1
   have:u=us j:=by
    have hu' : cur[j]? = some u:=by simpa using hu
    rw [hu'] at h1;simpa using h1
   rw [this];exact hrr j c hc
 let all:List Value:=cur.toList.take (n * k) ++ news
 have hall:all.length=(n+m) * k:=by show (cur.toList.take (n * k) ++ news).length=_;rw [List.length_append,List.length_take,Array.length_toList,hnl,hds,Nat.add_mul];omega
 have hrep:RepL Φ μ (cs ++ ds) all:=by
  refine ⟨by rw [hall,List.length_append,hcs,hds,Nat.add_mul],fun j c u hc hu=>?_⟩
  by_cases hj:j < n * k
  ·rw [List.getElem?_append_left (by omega)] at hc
   rw [List.getElem?_append_left (by rw [List.length_take,Array.length_toList];omega)] at hu
   exact hold.2 j c u hc hu
  ·rw [List.getElem?_append_right (by omega),hcs] at hc
   rw [List.getElem?_append_right (by rw [List.length_take,Array.length_toList];omega),List.length_take,Array.length_toList,show min (n * k) cur.size=n * k by omega] at hu
   exact hn.2 _ c u hc hu
 let Φ' : Imm:=fun b o=>if b=g then all[o]? else Φ b o
 have hrow:∀j,Φ' g j=all[j]?:=by intro j;show (if _ then _ else _)=_;simp
 have hoth:∀b j,b≠g→Φ' b j=Φ b j:=by intro b j hb;show (if _ then _ else _)=_;simp [hb]
 have hsub:∀b o u,Φ b o=some u→Φ' b o=some u:=by
  intro b o u eu
  by_cases hb:b=g
  ·subst hb
   rw [hrow]
   have ho:o < n * k:=by
    rcases Nat.lt_or_ge o (n * k) with hlt|hge
    ·exact hlt
    ·rw [hfree o hge] at eu;cases eu
   have h1:=h.imm b o u eu
   simp only [World.cell?,hg] at h1
   show (cur.toList.take (n * k) ++ news)[o]? = _
   rw [List.getElem?_append_left (by rw [List.length_take,Array.length_toList];omega),List.getElem?_take,if_pos ho]
   simpa using h1
  ·rw [hoth b o hb];exact eu
 have hlt:g < w.heap.size:=(Array.getElem?_eq_some_iff.1 hg).1
 have hω' : ∀g' p,ω g' = some p→p≠.tmp s→upd ω g (some (.tmp d)) g' = some p:=by
  intro g' p eg hp
  simp only [upd_if]
  rw [if_neg (by rintro rfl;rw [hω] at eg;cases eg;exact hp rfl)]
  exact eg
 have hstep:∀q n' k' E v,q≠.tmp s→OwnAt (Mine Φ0 W) Φ ω w q n' k' E v→OwnAt (Mine Φ0 W) Φ' (upd ω g (some (.tmp d))) (w.setRow g (cur.toList.take (n * k) ++ news ++ cur.toList.drop (n * k+news.length)).toArray) q n' k' E v:=by
  intro q n' k' E v hq hh
  refine hh.step (fun g' eg=>?_)
  have hne:g'≠g:=by rintro rfl;rw [hω] at eg;cases eg;exact hq rfl
  exact ⟨setRow_other w g g' _ hne,fun j=>hoth g' j hne,hω' g' q eg hq⟩
 refine ⟨Φ',upd ω g (some (.tmp d)),?_,h.defers,by simp [Act.put,h.size],?_,?_,fun t=>?_,fun t n' k' cs' E' et=>?_,fun id bs eb=>?_,h.gone,?_,h.gmu,h.kmu,fun b o u e=>⟨hsub _ _ _ (h.ext b o u e).1,(h.ext b o u e).2⟩,fun id X e=>(h.map id X e).step hsub (fun _ _ e=>e) (fun q hq g' eg=>?_),fun g' p e=>?_⟩
 ·exact h.below.trans ⟨rfl,rfl,rfl,by simp,fun j hj=>setRow_other w g j _ (hB.ne hj)⟩
 ·intro b o u eu
  by_cases hb:b=g
  ·subst hb
   rw [cell_setRow_same w b o cur _ e _ hg,List.getElem?_toArray]
   rw [hrow] at eu
   rw [List.getElem?_append_left (by have:=(List.getElem?_eq_some_iff.1 eu).1;exact this)]
   exact eu
  ·rw [hoth b o hb] at eu
   have:=h.imm b o u eu
   simp only [World.cell?] at this ⊢
   rw [setRow_other w g b _ hb];exact this
 ·intro b o hb
  rw [hoth b o (hB.ne hb)];exact h.old b o hb
 ·rw [getD_put _ _ _ _ hd']
  simp only [upd_if]
  by_cases ht:t=d
  ·simp only [if_pos ht]
   refine .sl (n+m) k _ _ g 0 cap (fun j=>all.getD j undef) (by rw [List.length_append,hcs,hds,Nat.add_mul]) hroom hcap (fun j hj=>?_) (fun j c hc=>?_)
   ·rw [Nat.zero_add,hrow]
    have:j < all.length:=by rw [hrep.1];exact hj
    rw [List.getD_eq_getElem?_getD,List.getElem?_eq_getElem this];rfl
   ·exact (hrep.mono hsub (fun _ _ e=>e)).us j c hc
  ·simp only [if_neg ht]
   by_cases hts:t=s
   ·subst hts;simp only [if_true];exact ((h.tmps t).mono hsub (fun _ _ e=>e)).bare
   ·simp only [if_neg hts];exact (h.tmps t).mono hsub (fun _ _ e=>e)
 ·rw [getD_put _ _ _ _ hd']
  simp only [upd_if] at et
  by_cases ht:t=d
  ·simp only [if_pos ht] at et ⊢
   cases et
   subst ht
   refine .inr (.inl ⟨g,cap,_,rfl,hB,setRow_heap w g cur _ e _ hg,hroom,hcap,?_,by simp [upd_if],hE,fun j hj=>?_⟩)
   ·simp only [List.size_toArray,List.length_append,List.length_take,List.length_drop,Array.length_toList];omega
   ·rw [hrow,List.getElem?_eq_none (by omega)]
  ·simp only [if_neg ht] at et ⊢
   by_cases hts:t=s
   ·simp only [if_pos hts] at et
    have:=PV.bare_own (σ.t s);rw [et] at this;simp [PV.ownB] at this
   ·simp only [if_neg hts] at et
    exact hstep _ _ _ _ _ (by simp [hts]) (h.own t n' k' cs' E' et)
 ·obtain ⟨g2,cur',Ty,h1,h2',h3,h4,h5,h6,h7⟩:=h.box id bs eb
  have hne:g2≠g:=by rintro rfl;rw [hω] at h4;cases h4
  refine ⟨g2,cur',Ty,h1,by rw [setRow_other w g g2 _ hne];exact h2',h3,hω' g2 _ h4 (by simp),fun j=>by rw [hoth g2 j hne];exact h5 j,h6,fun j c hc=>?_⟩
  obtain ⟨u,r1,r2,r3,r4⟩:=h7 j c hc
  exact ⟨u,r1,r2,r3.mono hsub (fun _ _ e=>e),fun n k cs E e=>hstep _ _ _ _ _ (by simp) (r4 n k cs E e)⟩
 ·intro g' p eg
  simp only [upd_if] at eg
  split at eg
  ·subst g'; simpa using hlt
  ·simpa using h.lt g' p eg
 ·have hne:g'≠g:=by rintro rfl;rw [hω] at eg;cases eg;rcases hq with hq|⟨j,hq⟩<;>cases hq
  exact ⟨setRow_other w g g' _ hne,fun j=>hoth g' j hne,hω' g' q eg (by rintro rfl;rcases hq with hq|⟨j,hq⟩<;>cases hq)⟩
 ·simp only [upd_if] at e
  split at e
  ·subst g'; exact hB
  ·exact h.mine g' p e
theorem set_get {α:Type} {l:List α} {i j:Nat} {x c:α} (h:(l.set i x)[j]? = some c):(j=i∧c=x)∨(j≠i∧l[j]? = some c):=by
 rw [List.getElem?_set] at h
 by_cases e:i=j
 ·subst e
  rw [if_pos rfl] at h
  split at h
  ·simp at h;exact .inl ⟨rfl,h.symm⟩
  ·cases h
 ·rw [if_neg e] at h;exact .inr ⟨fun x=>e x.symm,h⟩
theorem RelG.disj (h:RelG Φ0 W M Φ μ ω σ a w) {i j:Nat} {bs:List PV} {X:PMap} (hb:σ.b i=some bs) (hm:σ.m j=some X):i≠j:=by
 rintro rfl
 obtain ⟨g,cur,T,h1,h2,-⟩:=h.box _ _ hb
 obtain ⟨g',k1,-,-,-,k5⟩:=h.map _ _ hm
 rw [h1] at k1;cases k1
 cases X with
 |map es clock=>obtain ⟨-,ents,k6,-⟩:=k5;rw [h2] at k6;cases k6
 |iter mid since seen last=>obtain ⟨gm,-,k6⟩:=k5;rw [h2] at k6;cases k6
theorem RelG.give (h:RelG Φ0 W M Φ μ ω σ a w) {s id off n k g:Nat} {cs:List PV} {E:TypeId} {bs:List PV} (hs:σ.t s = .sl n k cs (some E)) (hb:σ.b id=some bs) (ho:bs[off]? = some (.sl n k cs none)) (hg:μ id=some g) (hc:w.cell? ⟨g,off,none⟩=some (a.tmps.getD s undef)) :
  ∃ω',RelG Φ0 W M Φ μ ω' { t:=upd σ.t s (σ.t s).bare,b:=upd σ.b id (some (bs.set off (.sl n k cs (some E)))),m:=σ.m } a w:=by
 have hown:=h.own s n k cs E hs
 have hmo:∀i X,σ.m i=some X→∀q,OfId i q→q≠.tmp s:=by
  rintro i X e q hq rfl
  rcases hq with hq|⟨j,hq⟩<;>cases hq
 have key:∀ω' : Nat→Option Who,(∀g p,ω g=some p→p≠.tmp s→ω' g=some p)→(∀g p,ω' g=some p→g < w.heap.size∧Mine Φ0 W g)→OwnAt (Mine Φ0 W) Φ ω' w (.cell id off) n k E (a.tmps.getD s undef) →
   RelG Φ0 W M Φ μ ω' { t:=upd σ.t s (σ.t s).bare,b:=upd σ.b id (some (bs.set off (.sl n k cs (some E)))),m:=σ.m } a w:=by
  intro ω' hω hlt ho'
  have hstep:∀q n k E v,q≠.tmp s→OwnAt (Mine Φ0 W) Φ ω w q n k E v→OwnAt (Mine Φ0 W) Φ ω' w q n k E v:=fun q n k E v hq hh=>hh.step (fun g e=>⟨rfl,fun _=>rfl,hω g q e hq⟩)
  have h1:=h.strip s
  refine ⟨h.below,h.defers,h.size,h.imm,h.old,h1.tmps,fun t n' k' cs' E' e=>?_,fun i bs' e=>?_,fun i e em=>?_,fun g p e=>(hlt g p e).1,h.gmu,h.kmu_upd hb _,h.ext,fun i X e=>(h.map i X e).step (fun _ _ _ e=>e) (fun _ _ e=>e) (fun q hq g e' => ⟨rfl,fun _=>rfl,hω g q e' (hmo i X e q hq)⟩),fun g p e=>(hlt g p e).2⟩
  ·by_cases ht:t=s
   ·subst ht
    simp only [upd_if,if_true] at e
    have:=PV.bare_own (σ.t t);rw [e] at this;simp [PV.ownB] at this
   ·simp only [upd_if,if_neg ht] at e
    exact hstep _ _ _ _ _ (by simp [ht]) (h.own t n' k' cs' E' e)
  ·by_cases hi:i=id
   ·subst hi
    simp only [upd_if,if_true] at e
    cases e
    obtain ⟨g',cur,Ty,h1,h2,h3,h4,h5,h6,h7⟩:=h.box i bs hb
    rw [hg] at h1;cases h1
    refine ⟨g,cur,Ty,hg,h2,h3,hω g _ h4 (by simp),h5,by simpa using h6,fun j c hcj=>?_⟩
    rcases set_get hcj with ⟨rfl,rfl⟩|⟨hne,hcj⟩
    ·obtain ⟨u,r1,r2,r3,r4⟩:=h7 j _ ho
     have hu:u=a.tmps.getD s undef:=by
      simp only [World.cell?,h2] at hc
      have hc' : cur[j]? = some (a.tmps.getD s undef):=by simpa using hc
      rw [r1] at hc'; simpa using hc'
     refine ⟨u,r1,r2,?_,fun n' k' cs' E' e=>?_⟩
     ·have:=h.tmps s;rw [hs,←hu] at this;exact this
     ·cases e;rw [hu];exact ho'
    ·obtain ⟨u,r1,r2,r3,r4⟩:=h7 j c hcj
     exact ⟨u,r1,r2,r3,fun n k cs E e=>hstep _ _ _ _ _ (by simp) (r4 n k cs E e)⟩
   ·simp only [upd_if,if_neg hi] at e
    obtain ⟨g',cur,Ty,h1,h2,h3,h4,h5,h6,h7⟩:=h.box i bs' e
    refine ⟨g',cur,Ty,h1,h2,h3,hω g' _ h4 (by simp),h5,h6,fun j c hcj=>?_⟩
    obtain ⟨u,r1,r2,r3,r4⟩:=h7 j c hcj
    exact ⟨u,r1,r2,r3,fun n k cs E e=>hstep _ _ _ _ _ (by simp) (r4 n k cs E e)⟩
  ·by_cases hi:i=id
   ·subst hi;simp [upd_if] at e
   ·simp only [upd_if,if_neg hi] at e;exact h.gone i e em
 rcases hown with ⟨hn,hn0⟩|⟨g',cap,cur,h1,h2,h3,h4,h5,h6,h7,h8⟩|hfl
 rotate_left 2
 ·exact ⟨ω,key ω (fun g p e _=>e) (fun g p e=>⟨h.lt g p e,h.mine g p e⟩) (.inr (.inr hfl))⟩
 ·exact ⟨ω,key ω (fun g p e _=>e) (fun g p e=>⟨h.lt g p e,h.mine g p e⟩) (.inl ⟨hn,hn0⟩)⟩
 ·refine ⟨upd ω g' (some (.cell id off)),key _ ?_ ?_ (.inr (.inl ⟨g',cap,cur,h1,h2,h3,h4,h5,h6,by simp [upd_if],h8⟩))⟩
  ·intro g'' p e hp
   simp only [upd_if]
   rw [if_neg (by rintro rfl;rw [h7] at e;cases e;exact hp rfl)]
   exact e
  ·intro g'' p e
   simp only [upd_if] at e
   split at e
   ·subst g''; exact ⟨(Array.getElem?_eq_some_iff.1 h3).1,h2⟩
   ·exact ⟨h.lt g'' p e,h.mine g'' p e⟩
theorem RelG.fetch (h:RelG Φ0 W M Φ μ ω σ a w) {d id off n k g:Nat} (hd:d < M) {cs:List PV} {E:TypeId} {bs:List PV} (hb:σ.b id=some bs) (ho:bs[off]? = some (.sl n k cs (some E))) (hg:μ id=some g) :
  ∃u ω',w.cell? ⟨g,off,none⟩=some u∧RelG Φ0 W M Φ μ ω' { t:=upd σ.t d (.sl n k cs (some E)),b:=upd σ.b id (some (bs.set off (.sl n k cs none))),m:=σ.m } (a.put (some d) u) w:=by
 have hd' : d < a.tmps.size:=by rw [h.size];exact hd
 obtain ⟨g',cur,Ty,b1,b2,b3,b4,b5,b6,b7⟩:=h.box id bs hb
 rw [hg] at b1;cases b1
 obtain ⟨u,r1,r2,r3,r4⟩:=b7 off _ ho
 have hown:=r4 n k cs E rfl
 have hcell:w.cell? ⟨g,off,none⟩=some u:=by simp [World.cell?,b2,r1]
 have hmo:∀i X,σ.m i=some X→∀q,OfId i q→q≠.cell id off:=by
  rintro i X e q hq rfl
  rcases hq with hq|⟨j,hq⟩
  ·cases hq
  ·cases hq;exact h.disj hb e rfl
 have key:∀ω' : Nat→Option Who,(∀g p,ω g=some p→p≠.cell id off→ω' g=some p)→(∀g p,ω' g=some p→g < w.heap.size∧Mine Φ0 W g)→OwnAt (Mine Φ0 W) Φ ω' w (.tmp d) n k E u →
   RelG Φ0 W M Φ μ ω' { t:=upd σ.t d (.sl n k cs (some E)),b:=upd σ.b id (some (bs.set off (.sl n k cs none))),m:=σ.m } (a.put (some d) u) w:=by
  intro ω' hω hlt ho'
  have hstep:∀q n k E v,q≠.cell id off→OwnAt (Mine Φ0 W) Φ ω w q n k E v→OwnAt (Mine Φ0 W) Φ ω' w q n k E v:=fun q n k E v hq hh=>hh.step (fun g e=>⟨rfl,fun _=>rfl,hω g q e hq⟩)
  refine ⟨h.below,h.defers,by simp [Act.put,h.size],h.imm,h.old,fun t=>?_,fun t n' k' cs' E' e=>?_,fun i bs' e=>?_,fun i e em=>?_,fun g p e=>(hlt g p e).1,h.gmu,h.kmu_upd hb _,h.ext,fun i X e=>(h.map i X e).step (fun _ _ _ e=>e) (fun _ _ e=>e) (fun q hq g e' => ⟨rfl,fun _=>rfl,hω g q e' (hmo i X e q hq)⟩),fun g p e=>(hlt g p e).2⟩
  ·rw [getD_put _ _ _ _ hd']
   by_cases ht:t=d
   ·simp only [upd_if,if_pos ht];exact r3
   ·simp only [upd_if,if_neg ht];exact h.tmps t
  ·rw [getD_put _ _ _ _ hd']
   by_cases ht:t=d
   ·simp only [upd_if,if_pos ht] at e ⊢
    cases e
    subst ht;exact ho'
   ·simp only [upd_if,if_neg ht] at e ⊢
    exact hstep _ _ _ _ _ (by simp) (h.own t n' k' cs' E' e)
  ·by_cases hi:i=id
   ·subst hi
    simp only [upd_if,if_true] at e
    cases e
    refine ⟨g,cur,Ty,hg,b2,b3,hω g _ b4 (by simp),b5,by simpa using b6,fun j c hcj=>?_⟩
    rcases set_get hcj with ⟨rfl,rfl⟩|⟨hne,hcj⟩
    ·exact ⟨u,r1,r2,r3.bare,fun n' k' cs' E' e=>by cases e⟩
    ·obtain ⟨u',q1,q2,q3,q4⟩:=b7 j c hcj
     exact ⟨u',q1,q2,q3,fun n k cs E e=>hstep _ _ _ _ _ (by simp [hne]) (q4 n k cs E e)⟩
   ·simp only [upd_if,if_neg hi] at e
    obtain ⟨g',cur',Ty',h1,h2,h3,h4,h5,h6,h7⟩:=h.box i bs' e
    refine ⟨g',cur',Ty',h1,h2,h3,hω g' _ h4 (by simp),h5,h6,fun j c hcj=>?_⟩
    obtain ⟨u',q1,q2,q3,q4⟩:=h7 j c hcj
    exact ⟨u',q1,q2,q3,fun n k cs E e=>hstep _ _ _ _ _ (by simp [hi]) (q4 n k cs E e)⟩
  ·by_cases hi:i=id
   ·subst hi;simp [upd_if] at e
   ·simp only [upd_if,if_neg hi] at e;exact h.gone i e em
 rcases hown with ⟨hn,hn0⟩|⟨g',cap,cur',h1,h2,h3,h4,h5,h6,h7,h8⟩|hfl
 rotate_left 2
 ·exact ⟨u,ω,hcell,key ω (fun g p e _=>e) (fun g p e=>⟨h.lt g p e,h.mine g p e⟩) (.inr (.inr hfl))⟩
 ·exact ⟨u,ω,hcell,key ω (fun g p e _=>e) (fun g p e=>⟨h.lt g p e,h.mine g p e⟩) (.inl ⟨hn,hn0⟩)⟩
 ·refine ⟨u,upd ω g' (some (.tmp d)),hcell,key _ ?_ ?_ (.inr (.inl ⟨g',cap,cur',h1,h2,h3,h4,h5,h6,by simp [upd_if],h8⟩))⟩
  ·intro g'' p e hp
   simp only [upd_if]
   rw [if_neg (by rintro rfl;rw [h7] at e;cases e;exact hp rfl)]
   exact e
  ·intro g'' p e
   simp only [upd_if] at e
   split at e
   ·subst g''; exact ⟨(Array.getElem?_eq_some_iff.1 h3).1,h2⟩
   ·exact ⟨h.lt g'' p e,h.mine g'' p e⟩
def World.setO (w:World) (g:Nat) (o:Obj):World:={ w with heap:=w.heap.setIfInBounds g o }
theorem setO_other (w:World) (g k:Nat) (o:Obj) (h:k≠g):(World.setO w g o).heap[k]? = w.heap[k]?:=by
 simp [World.setO,Array.getElem?_setIfInBounds,Ne.symm h]
theorem setO_same (w:World) (g:Nat) (o:Obj) (h:g < w.heap.size):(World.setO w g o).heap[g]? = some o:=by
 simp [World.setO,Array.getElem?_setIfInBounds,h]
theorem RelG.setMap (h:RelG Φ0 W M Φ μ ω σ a w) {id g:Nat} {X X' : PMap} (hm:σ.m id=some X) (hg:μ id=some g) (ob:Obj) (hX:match X' with
   | .map es clock=>StampsOK es clock∧∃ents,ob = .map ents clock∧ents.size=es.length∧∀(j:Nat) s k c,es[j]? = some (s,k,c)→∃e,ents[j]? = some e∧e.born=s∧Rep Φ μ k e.key∧Rep Φ μ c e.val∧∀n kk cs E,c = .sl n kk cs (some E)→OwnAt (Mine Φ0 W) Φ ω w (.cell id s) n kk E e.val
   | .iter mid since seen last=>∃gm,μ mid=some gm∧ob = .mapIter (some gm) since seen.toArray last) :
  RelG Φ0 W M Φ μ ω { σ with m:=upd σ.m id (some X') } a (World.setO w g ob):=by
 obtain ⟨g',k1,k2,k3,k4,k5⟩:=h.map _ _ hm
 rw [hg] at k1;cases k1
 have hlt:=h.lt g _ k3
 have hkeep:∀q:Who,q≠.box id→∀g',ω g' = some q→(World.setO w g ob).heap[g']? = w.heap[g']?∧(∀j,Φ g' j=Φ g' j)∧ω g' = some q:=by
  intro q hq g' e
  refine ⟨setO_other w g g' _ ?_,fun _=>rfl,e⟩
  rintro rfl
  rw [k3] at e;cases e;exact hq rfl
 refine ⟨h.below.trans ⟨rfl,rfl,rfl,by simp [World.setO],fun k hk=>setO_other w g k _ (k2.ne hk)⟩,h.defers,h.size,?_,h.old,h.tmps,fun t n k cs E e=>(h.own t n k cs E e).step (hkeep _ (by simp)),fun i bs e=>(h.box i bs e).step (fun _ _ _ e=>e) (fun _ _ e=>e) (fun q hq=>hkeep q ?_),fun i e em=>?_,fun g' p e=>by simpa [World.setO] using h.lt g' p e,h.gmu,fun i g' e hi=>h.kmu i g' e ?_,h.ext,fun i Y e=>?_,h.mine⟩
 ·intro b o u e
  have hbg:b≠g:=by rintro rfl;rw [k4] at e;cases e
  have:=h.imm b o u e
  simp only [World.cell?] at this ⊢
  rw [setO_other w g b _ hbg];exact this
 ·rintro rfl
  rcases hq with hq|⟨j,hq⟩
  ·cases hq;exact h.disj e hm rfl
  ·cases hq
 ·by_cases hi:i=id
  ·subst hi;simp [upd_if] at em
  ·simp only [upd_if,if_neg hi] at em;exact h.gone i e em
 ·rcases hi with hi|hi
  ·exact .inl hi
  ·by_cases hid:i=id
   ·subst hid;right;rw [hm];simp
   ·simp only [upd_if,if_neg hid] at hi;exact .inr hi
 ·by_cases hi:i=id
  ·subst hi
   simp only [upd_if,if_true] at e
   cases e
   refine ⟨g,hg,k2,k3,k4,?_⟩
   cases X' with
   |map es clock=>
    obtain ⟨e0,ents,rfl,e2,e3⟩:=hX
    refine ⟨e0,ents,setO_same w g _ hlt,e2,fun j s k c hj=>?_⟩
    obtain ⟨e,f1,f2,f3,f4,f5⟩:=e3 j s k c hj
    exact ⟨e,f1,f2,f3,f4,fun n kk cs E ec=>(f5 n kk cs E ec).step (hkeep _ (by simp))⟩
   |iter mid since seen last=>
    obtain ⟨gm,e1,rfl⟩:=hX
    exact ⟨gm,e1,setO_same w g _ hlt⟩
  ·simp only [upd_if,if_neg hi] at e
   exact (h.map i Y e).step (fun _ _ _ e=>e) (fun _ _ e=>e) (fun q hq=>hkeep q (by rintro rfl;rcases hq with hq|⟨j,hq⟩<;>cases hq;exact hi rfl))
theorem RelG.turn (h:RelG Φ0 W M Φ μ ω σ a w) {σ' : PS} {a' : Act} {p q:Who} {n k:Nat} {E:TypeId} {v:Value} (ho:OwnAt (Mine Φ0 W) Φ ω w p n k E v)
  (hsz:a'.tmps.size=M) (hdf:a'.defers=Φ0.marks.map collD∧RndOK Φ0 W) (htm:∀t,Rep Φ μ (σ'.t t) (a'.tmps.getD t undef))
  (key:∀ω' : Nat→Option Who,(∀g r,ω g=some r→r≠p→ω' g=some r)→OwnAt (Mine Φ0 W) Φ ω' w q n k E v →
   (∀t n k cs E,σ'.t t = .sl n k cs (some E)→OwnAt (Mine Φ0 W) Φ ω' w (.tmp t) n k E (a'.tmps.getD t undef))∧(∀id bs,σ'.b id=some bs→BoxAt (Mine Φ0 W) Φ μ ω' w id bs)∧(∀id X,σ'.m id=some X→MapAt (Mine Φ0 W) Φ μ ω' w id X))
  (hb:∀id,σ'.b id=none↔σ.b id=none) (hm:∀id,σ'.m id=none↔σ.m id=none):∃ω',RelG Φ0 W M Φ μ ω' σ' a' w:=by
 have fin:∀ω' : Nat→Option Who,(∀g r,ω g=some r→r≠p→ω' g=some r)→(∀g p,ω' g=some p→g < w.heap.size∧Mine Φ0 W g)→OwnAt (Mine Φ0 W) Φ ω' w q n k E v→RelG Φ0 W M Φ μ ω' σ' a' w:=by
  intro ω' h1 h2 h3
  obtain ⟨k1,k2,k3⟩:=key ω' h1 h3
  exact ⟨h.below,hdf,hsz,h.imm,h.old,htm,k1,k2,fun id e em=>h.gone id ((hb id).1 e) ((hm id).1 em),fun g p e=>(h2 g p e).1,h.gmu,fun id g e hi=>h.kmu id g e (by
   rcases hi with hi|hi
   ·exact .inl (fun e=>hi ((hb id).2 e))
   ·exact .inr (fun e=>hi ((hm id).2 e))),h.ext,k3,fun g p e=>(h2 g p e).2⟩
 rcases ho with ⟨hn,hn0⟩|⟨g',cap,cur,h1,h2,h3,h4,h5,h6,h7,h8⟩|hfl
 rotate_left 2
 ·exact ⟨ω,fin ω (fun g r e _=>e) (fun g p e=>⟨h.lt g p e,h.mine g p e⟩) (.inr (.inr hfl))⟩
 ·exact ⟨ω,fin ω (fun g r e _=>e) (fun g p e=>⟨h.lt g p e,h.mine g p e⟩) (.inl ⟨hn,hn0⟩)⟩
 ·refine ⟨upd ω g' (some q),fin _ ?_ ?_ (.inr (.inl ⟨g',cap,cur,h1,h2,h3,h4,h5,h6,by simp [upd_if],h8⟩))⟩
  ·intro g r e hp
   simp only [upd_if]
   rw [if_neg (by rintro rfl;rw [h7] at e;cases e;exact hp rfl)]
   exact e
  ·intro g r e
   simp only [upd_if] at e
   split at e
   ·subst g;exact ⟨(Array.getElem?_eq_some_iff.1 h3).1,h2⟩
   ·exact ⟨h.lt g r e,h.mine g r e⟩
theorem stamps_set {es:List (Nat×PV×PV)} {clock j s:Nat} {k c k' c' : PV} (h:StampsOK es clock) (hj:es[j]? = some (s,k,c)):StampsOK (es.set j (s,k',c')) clock:=by
 have e1:(es.set j (s,k',c')).map (·.1)=es.map (·.1):=by
  rw [List.map_set]
  apply List.ext_getElem?
  intro q
  rw [List.getElem?_set]
  split
  ·rename_i e;subst e
   rw [List.getElem?_map,hj]
   split
   ·rfl
   ·rename_i hl;simp at hl;have:=(List.getElem?_eq_some_iff.1 hj).1;omega
  ·rfl
 refine ⟨by rw [e1];exact h.1,fun e he=>?_⟩
 have:e.1∈(es.set j (s,k',c')).map (·.1):=List.mem_map.2 ⟨e,he,rfl⟩
 rw [e1] at this
 obtain ⟨x,hx,e2⟩:=List.mem_map.1 this
 rw [←e2];exact h.2 x hx
theorem RelG.giveM (h:RelG Φ0 W M Φ μ ω σ a w) {s id n k j st clock g:Nat} {cs:List PV} {E:TypeId} {es:List (Nat×PV×PV)} {kp:PV} {ents:Array MapEntry} {en:MapEntry} (hs:σ.t s = .sl n k cs (some E)) (hm:σ.m id=some (.map es clock)) (hj:es[j]? = some (st,kp, .sl n k cs none))
  (hg:μ id=some g) (hh:w.heap[g]? = some (.map ents clock)) (he:ents[j]? = some en) (hv:en.val=a.tmps.getD s undef) :
  ∃ω',RelG Φ0 W M Φ μ ω' { t:=upd σ.t s (σ.t s).bare,b:=σ.b,m:=upd σ.m id (some (.map (es.set j (st,kp, .sl n k cs (some E))) clock)) } a w:=by
 refine h.turn (q:=.cell id st) (h.own s n k cs E hs) h.size h.defers (h.strip s).tmps (fun ω' hω ho' => ⟨?_,?_,?_⟩) (fun i=>Iff.rfl) (fun i=>?_)
 ·intro t n' k' cs' E' e
  by_cases ht:t=s
  ·subst ht
   simp only [upd_if,if_true] at e
   have:=PV.bare_own (σ.t t);rw [e] at this;simp [PV.ownB] at this
  ·simp only [upd_if,if_neg ht] at e
   exact (h.own t n' k' cs' E' e).step (fun g e=>⟨rfl,fun _=>rfl,hω g _ e (by simp [ht])⟩)
 ·intro i bs e
  exact (h.box i bs e).step (fun _ _ _ e=>e) (fun _ _ e=>e) (fun q hq g e' => ⟨rfl,fun _=>rfl,hω g q e' (by rintro rfl;rcases hq with hq|⟨j,hq⟩<;>cases hq)⟩)
 ·intro i X e
  have hk:KeptBy (OfId i) Φ Φ ω ω' w w:=fun q hq g e' => ⟨rfl,fun _=>rfl,hω g q e' (by rintro rfl;rcases hq with hq|⟨j,hq⟩<;>cases hq)⟩
  by_cases hi:i=id
  ·subst hi
   simp only [upd_if,if_true] at e
   cases e
   obtain ⟨g',k1,k2,k3,k4,hst,ents',k5,k6,k7⟩:=h.map i _ hm
   rw [hg] at k1;cases k1
   rw [hh] at k5;cases k5
   refine ⟨g,hg,k2,(hk _ (.inl rfl) g k3).2.2,k4,stamps_set hst hj,ents,hh,by simpa using k6,fun j' s' kk c hj' => ?_⟩
   rcases set_get hj' with ⟨rfl,e⟩|⟨hne,hj'⟩
   ·cases e
    obtain ⟨e,f1,f2,f3,f4,f5⟩:=k7 j' _ _ _ hj
    rw [he] at f1;cases f1
    refine ⟨en,he,f2,f3,?_,fun n' kk' cs' E' e=>?_⟩
    ·have:=h.tmps s;rw [hs,←hv] at this;exact this
    ·cases e;rw [hv];exact ho'
   ·obtain ⟨e,f1,f2,f3,f4,f5⟩:=k7 j' _ _ _ hj'
    exact ⟨e,f1,f2,f3,f4,fun n' kk' cs' E' ec=>(f5 n' kk' cs' E' ec).step (fun g e' => hk _ (.inr ⟨_,rfl⟩) g e')⟩
  ·simp only [upd_if,if_neg hi] at e
   exact (h.map i X e).step (fun _ _ _ e=>e) (fun _ _ e=>e) hk
 ·by_cases hi:i=id
  ·subst hi;simp [upd_if,hm]
  ·simp [upd_if,hi]
theorem RelG.fetchM (h:RelG Φ0 W M Φ μ ω σ a w) {d id n k j st clock g:Nat} (hd:d < M) {cs:List PV} {E:TypeId} {es:List (Nat×PV×PV)} {kp:PV} {ents:Array MapEntry} {en:MapEntry} (hm:σ.m id=some (.map es clock)) (hj:es[j]? = some (st,kp, .sl n k cs (some E)))
  (hg:μ id=some g) (hh:w.heap[g]? = some (.map ents clock)) (he:ents[j]? = some en) :
  ∃ω',RelG Φ0 W M Φ μ ω' { t:=upd σ.t d (.sl n k cs (some E)),b:=σ.b,m:=upd σ.m id (some (.map (es.set j (st,kp, .sl n k cs none)) clock)) } (a.put (some d) en.val) w:=by
 have hd' : d < a.tmps.size:=by rw [h.size];exact hd
 obtain ⟨g',k1,k2,k3,k4,hst,ents',k5,k6,k7⟩:=h.map id _ hm
 rw [hg] at k1;cases k1
 rw [hh] at k5;cases k5
 obtain ⟨en',f1,f2,f3,f4,f5⟩:=k7 j _ _ _ hj
 rw [he] at f1;cases f1
 refine h.turn (q:=.tmp d) (f5 n k cs E rfl) (by simp [Act.put,h.size]) h.defers (fun t=>?_) (fun ω' hω ho' => ⟨?_,?_,?_⟩) (fun i=>Iff.rfl) (fun i=>?_)
 ·rw [getD_put _ _ _ _ hd']
  by_cases ht:t=d
  ·simp only [upd_if,if_pos ht];exact f4
  ·simp only [upd_if,if_neg ht];exact h.tmps t
 ·intro t n' k' cs' E' e
  rw [getD_put _ _ _ _ hd']
  by_cases ht:t=d
  ·simp only [upd_if,if_pos ht] at e ⊢
   cases e
   subst ht;exact ho'
  ·simp only [upd_if,if_neg ht] at e ⊢
   exact (h.own t n' k' cs' E' e).step (fun g e=>⟨rfl,fun _=>rfl,hω g _ e (by simp)⟩)
 ·intro i bs e
  exact (h.box i bs e).step (fun _ _ _ e=>e) (fun _ _ e=>e) (fun q hq g e' => ⟨rfl,fun _=>rfl,hω g q e' (by
   rintro rfl
   rcases hq with hq|⟨j,hq⟩
   ·cases hq
   ·cases hq;exact h.disj e hm rfl)⟩)
 ·intro i X e
  by_cases hi:i=id
  ·subst hi
   simp only [upd_if,if_true] at e
   cases e
   refine ⟨g,hg,k2,hω g _ k3 (by simp),k4,stamps_set hst hj,ents,hh,by simpa using k6,fun j' s' kk c hj' => ?_⟩
   rcases set_get hj' with ⟨rfl,e⟩|⟨hne,hj2⟩
   ·cases e
    exact ⟨en,he,f2,f3,f4.bare,fun n' kk' cs' E' e=>by cases e⟩
   ·obtain ⟨e,q1,q2,q3,q4,q5⟩:=k7 j' _ _ _ hj2
    refine ⟨e,q1,q2,q3,q4,fun n' kk' cs' E' ec=>(q5 n' kk' cs' E' ec).step (fun g e' => ⟨rfl,fun _=>rfl,hω g _ e' ?_⟩)⟩
    rw [Ne,Who.cell.injEq]
    rintro ⟨-,rfl⟩
    have h1:(es.map (·.1))[j]? = some s':=by rw [List.getElem?_map,hj];rfl
    have h2:(es.map (·.1))[j']? = some s':=by rw [List.getElem?_map,hj2];rfl
    have hl1:=(List.getElem?_eq_some_iff.1 h1).1
    exact hne ((List.getElem?_inj hl1 hst.1).1 (h1.trans h2.symm)).symm
  ·simp only [upd_if,if_neg hi] at e
   exact (h.map i X e).step (fun _ _ _ e=>e) (fun _ _ e=>e) (fun q hq g e' => ⟨rfl,fun _=>rfl,hω g q e' (by
    rintro rfl
    rcases hq with hq|⟨j,hq⟩
    ·cases hq
    ·cases hq;exact hi rfl)⟩)
 ·by_cases hi:i=id
  ·subst hi;simp [upd_if,hm]
  ·simp [upd_if,hi]
end
section
open Go.RowKit
theorem below_alloc (w:World) (o:Obj):Below w.heap.size w (w.alloc o):=(Below.refl _ _).alloc (Nat.le_refl _) _
def RdS (w:World) (v:Value) (k:Nat) (rows:List (List Value)):Prop:=
 ∃a cap b off,v = .slice a rows.length cap∧rows.length≤cap∧cap≤maxLen∧(0 < rows.length→a=some ⟨b,off,none⟩) ∧
  ∀i j r u,rows[i]? = some r→r[j]? = some u→w.cell? ⟨b,off+i * k+j,none⟩=some u
theorem RdS.below {w w' : World} {v:Value} {k:Nat} {rows:List (List Value)} (h:RdS w v k rows) (hb:Below w.heap.size w w'):RdS w' v k rows:=by
 obtain ⟨a,cap,b,off,h1,h2,h3,h4,h5⟩:=h
 exact ⟨a,cap,b,off,h1,h2,h3,h4,fun i j r u hr hu=>below_cell hb (h5 i j r u hr hu)⟩
def Strs (w:World) (v:Value) (l:List ByteArray):Prop:=Rd w v (l.map Value.string)
theorem Strs.below {w w' : World} {v:Value} {l:List ByteArray} (h:Strs w v l) (hb:Below w.heap.size w w'):Strs w' v l:=Rd.below h hb
theorem Ints.below {w w' : World} {v:Value} {l:List Int} (h:Ints w v l) (hb:Below w.heap.size w w'):Ints w' v l:=Rd.below h hb
theorem Bytes.below {w w' : World} {v:Value} {l:List Int} (h:Bytes w v l) (hb:Below w.heap.size w w'):Bytes w' v l:=Rd.below h hb
theorem Strs.open {w:World} {v:Value} {l:List ByteArray} (h:Strs w v l):∃a cap b off,v = .slice a l.length cap∧l.length≤cap∧cap≤maxLen ∧
  (0 < l.length→a=some ⟨b,off,none⟩)∧Hid (∀j x,l[j]? = some x→w.cell? ⟨b,off+j,none⟩=some (.string x)):=by
 obtain ⟨a,cap,b,off,h1,h2,h3,h4,h5⟩:=h
 simp only [List.length_map] at h1 h2 h4
 exact ⟨a,cap,b,off,h1,h2,h3,h4,fun j x hx=>h5 j _ (by simp [hx])⟩
def attrC (a:PAttr):List Value := [.string a.name, .int .i64 a.kind, .int .i64 a.n, .string a.s]
def attrV (a:PAttr):Value:=.agg #[.string a.name, .int .i64 a.kind, .int .i64 a.n, .string a.s]
def Attrs (w:World) (v:Value) (l:List PAttr):Prop:=RdS w v 4 (l.map attrC)
theorem Attrs.below {w w' : World} {v:Value} {l:List PAttr} (h:Attrs w v l) (hb:Below w.heap.size w w'):Attrs w' v l:=RdS.below h hb
def AttrAt (w:World) (b off:Nat) (x:PAttr):Prop:=
 w.cell? ⟨b,off,none⟩=some (.string x.name)∧w.cell? ⟨b,off+1,none⟩=some (.int .i64 x.kind)∧w.cell? ⟨b,off+2,none⟩=some (.int .i64 x.n)∧w.cell? ⟨b,off+3,none⟩=some (.string x.s)
theorem AttrAt.below {w w' : World} {b off:Nat} {x:PAttr} (h:AttrAt w b off x) (hb:Below w.heap.size w w'):AttrAt w' b off x:=
 ⟨below_cell hb h.1,below_cell hb h.2.1,below_cell hb h.2.2.1,below_cell hb h.2.2.2⟩
theorem AttrAt.lt {w:World} {b off:Nat} {x:PAttr} (h:AttrAt w b off x):b < w.heap.size:=World.block_lt_of_cell? _ _ h.1
theorem Attrs.open {w:World} {v:Value} {l:List PAttr} (h:Attrs w v l):∃a cap b off,v = .slice a l.length cap∧l.length≤cap∧cap≤maxLen ∧
  (0 < l.length→a=some ⟨b,off,none⟩)∧Hid (∀i x,l[i]? = some x→AttrAt w b (off+i * 4) x):=by
 obtain ⟨a,cap,b,off,h1,h2,h3,h4,h5⟩:=h
 simp only [List.length_map] at h1 h2 h4
 refine ⟨a,cap,b,off,h1,h2,h3,h4,fun i x hx=>?_⟩
 have e:(l.map attrC)[i]? = some (attrC x):=by simp [hx]
 exact ⟨h5 i 0 _ _ e rfl,h5 i 1 _ _ e rfl,h5 i 2 _ _ e rfl,h5 i 3 _ _ e rfl⟩
def DefAt (w:World) (b off:Nat) (d:PDef) (wv:Value):Prop:=
 w.cell? ⟨b,off,none⟩=some (.string d.name)∧w.cell? ⟨b,off+1,none⟩=some (.int .i64 d.kind)∧w.cell? ⟨b,off+2,none⟩=some (.int .i64 d.lo)∧w.cell? ⟨b,off+3,none⟩=some (.int .i64 d.hi)∧w.cell? ⟨b,off+4,none⟩=some wv
theorem DefAt.below {w w' : World} {b off:Nat} {d:PDef} {wv:Value} (h:DefAt w b off d wv) (hb:Below w.heap.size w w'):DefAt w' b off d wv:=
 ⟨below_cell hb h.1,below_cell hb h.2.1,below_cell hb h.2.2.1,below_cell hb h.2.2.2.1,below_cell hb h.2.2.2.2⟩
theorem DefAt.lt {w:World} {b off:Nat} {d:PDef} {wv:Value} (h:DefAt w b off d wv):b < w.heap.size:=World.block_lt_of_cell? _ _ h.1
def Defs (w:World) (v:Value) (l:List PDef):Prop:=
 ∃a cap b off,v = .slice a l.length cap∧l.length≤cap∧cap≤maxLen∧(0 < l.length→a=some ⟨b,off,none⟩) ∧
  ∀i d,l[i]? = some d→∃wv,DefAt w b (off+i * 5) d wv∧Strs w wv d.words
theorem Defs.below {w w' : World} {v:Value} {l:List PDef} (h:Defs w v l) (hb:Below w.heap.size w w'):Defs w' v l:=by
 obtain ⟨a,cap,b,off,h1,h2,h3,h4,h5⟩:=h
 refine ⟨a,cap,b,off,h1,h2,h3,h4,fun i d hd=>?_⟩
 obtain ⟨wv,h6,h7⟩:=h5 i d hd
 exact ⟨wv,h6.below hb,h7.below hb⟩
theorem Defs.open {w:World} {v:Value} {l:List PDef} (h:Defs w v l):∃a cap b off,v = .slice a l.length cap∧l.length≤cap∧cap≤maxLen ∧
  (0 < l.length→a=some ⟨b,off,none⟩)∧Hid (∀i d,l[i]? = some d→∃wv,DefAt w b (off+i * 5) d wv∧Strs w wv d.words):=h
def SchemaV (w:World) (v:Value) (s:PSchema):Prop:=∃dv,v = .agg #[.int .i64 s.dims, .int .i64 s.metric,dv]∧Defs w dv s.defs
theorem SchemaV.below {w w' : World} {v:Value} {s:PSchema} (h:SchemaV w v s) (hb:Below w.heap.size w w'):SchemaV w' v s:=by
 obtain ⟨dv,h1,h2⟩:=h
 exact ⟨dv,h1,h2.below hb⟩
def entryVal (e:PEntry) (vv av:Value):Value:=.agg #[.int .i64 e.id, .int .i64 e.ver, .int .i64 e.owner, .int .i64 e.filed, .int .i64 e.frm, .int .i64 e.to, .int .i64 e.born,vv,av]
def EntryV (w:World) (v:Value) (e:PEntry):Prop:=∃vv av,v=entryVal e vv av∧Ints w vv e.vec∧Attrs w av e.attrs
theorem EntryV.below {w w' : World} {v:Value} {e:PEntry} (h:EntryV w v e) (hb:Below w.heap.size w w'):EntryV w' v e:=by
 obtain ⟨vv,av,h1,h2,h3⟩:=h
 exact ⟨vv,av,h1,h2.below hb,h3.below hb⟩
def RetB (w:World) (b:Bool) (e:Ending) (w' : World):Prop:=e = .returned (.bool b)∧Below w.heap.size w w'
def RetI (w:World) (n:Int) (e:Ending) (w' : World):Prop:=e = .returned (.int .i64 n)∧Below w.heap.size w w'
theorem RetB.mk {w w' : World} {a b:Bool} (h:a=b) (hb:Below w.heap.size w w'):RetB w b (.returned (.bool a)) w':=⟨by rw [h],hb⟩
theorem RetI.mk {w w' : World} {a b:Int} (h:a=b) (hb:Below w.heap.size w w'):RetI w b (.returned (.int .i64 a)) w':=⟨by rw [h],hb⟩
structure Rule where
 f:Nat
 caps:Array Value
 b:Bool
 e:Int
def ruleC (r:Rule):List Value := [.func (.func r.f) #[] r.caps, .int .i64 r.e]
def Rules (w:World) (v:Value) (rs:List Rule):Prop:=RdS w v 2 (rs.map ruleC)
theorem Rules.open {w:World} {v:Value} {l:List Rule} (h:Rules w v l):∃a cap b off,v = .slice a l.length cap∧l.length≤cap∧cap≤maxLen ∧
  (0 < l.length→a=some ⟨b,off,none⟩)∧Hid (∀i x,l[i]? = some x→w.cell? ⟨b,off+i * 2,none⟩=some (.func (.func x.f) #[] x.caps)∧w.cell? ⟨b,off+i * 2+1,none⟩=some (.int .i64 x.e)):=by
 obtain ⟨a,cap,b,off,h1,h2,h3,h4,h5⟩:=h
 simp only [List.length_map] at h1 h2 h4
 refine ⟨a,cap,b,off,h1,h2,h3,h4,fun i x hx=>?_⟩
 have e:(l.map ruleC)[i]? = some (ruleC x):=by simp [hx]
 exact ⟨h5 i 0 _ _ e rfl,h5 i 1 _ _ e rfl⟩
theorem flat_get {α:Type} (k:Nat):∀(rows:List (List α)),(∀r∈rows,r.length=k)→∀(i j:Nat) (r:List α) (u:α),rows[i]? = some r→r[j]? = some u→rows.flatten[i * k+j]? = some u
 | [],_,i,j,r,u,h,_=>by simp at h
 |x :: xs,hk,0,j,r,u,h,hu=>by
  simp at h;subst h
  have hj:j < x.length:=(List.getElem?_eq_some_iff.1 hu).1
  rw [List.flatten_cons,Nat.zero_mul,Nat.zero_add,List.getElem?_append_left hj]
  exact hu
 |x :: xs,hk,i+1,j,r,u,h,hu=>by
  have hx:=hk x (by simp)
  rw [List.flatten_cons,List.getElem?_append_right (by rw [hx,Nat.succ_mul];omega),hx]
  have e:(i+1) * k+j - k=i * k+j:=by rw [Nat.succ_mul];omega
  rw [e]
  exact flat_get k xs (fun r hr=>hk r (by simp [hr])) i j r u (by simpa using h) hu
theorem RdS.lit (w:World) (k:Nat) (rows:List (List Value)) (hk:∀r∈rows,r.length=k) (T:TypeId) (hm:rows.length≤maxLen) :
  RdS (w.alloc (.cells rows.flatten.toArray T)) (.slice (some ⟨w.heap.size,0,none⟩) rows.length rows.length) k rows:=by
 refine ⟨_,_,w.heap.size,0,rfl,Nat.le_refl _,hm,fun _=>rfl,fun i j r u hr hu=>?_⟩
 have:=flat_get k rows hk i j r u hr hu
 rw [←this]
 simp [cell_of_row _ _ _ _ _ (0,0) (heap_alloc_new w (.cells rows.flatten.toArray T))]
theorem Rules.lit (w:World) (rs:List Rule) (T:TypeId) (hm:rs.length≤1000):Rules (w.alloc (.cells (rs.map ruleC).flatten.toArray T)) (.slice (some ⟨w.heap.size,0,none⟩) rs.length rs.length) rs:=by
 have:=RdS.lit w 2 (rs.map ruleC) (by intro r hr;obtain ⟨x,_,rfl⟩:=List.mem_map.1 hr;rfl) T (by simp [maxLen];omega)
 simpa [Rules] using this
theorem Rules.mk {w:World} {g n:Nat} {T:TypeId} {cs:Array Value} (rs:List Rule) (hm:rs.length≤1000) (hg:g=w.heap.size) (hn:n=rs.length) (hcs:cs=(rs.map ruleC).flatten.toArray) :
  Rules (w.alloc (.cells cs T)) (.slice (some ⟨g,0,none⟩) n n) rs:=by
 subst hg hn hcs
 exact Rules.lit w rs T hm
theorem DefAt.box (w:World) (d:PDef) (wv:Value) (T:TypeId):DefAt (w.alloc (.cells #[.string d.name, .int .i64 d.kind, .int .i64 d.lo, .int .i64 d.hi,wv] T)) w.heap.size 0 d wv:=by
 refine ⟨?_,?_,?_,?_,?_⟩<;>simp
def EnvD (d:PDef) (wv:Value) (bf:ByteArray) (g h:Nat) (w:World):Prop:=DefAt w g 0 d wv∧Strs w wv d.words∧w.cell? ⟨h,0,none⟩=some (.string bf)
theorem EnvD.below {d:PDef} {wv:Value} {bf:ByteArray} {g h:Nat} {w w' : World} (e:EnvD d wv bf g h w) (hb:Below w.heap.size w w'):EnvD d wv bf g h w':=
 ⟨e.1.below hb,e.2.1.below hb,below_cell hb e.2.2⟩
def SchAt (w:World) (g:Nat) (s:PSchema) (dv:Value):Prop:=w.cell? ⟨g,0,none⟩=some (.int .i64 s.dims)∧w.cell? ⟨g,1,none⟩=some (.int .i64 s.metric)∧w.cell? ⟨g,2,none⟩=some dv∧Defs w dv s.defs
theorem SchAt.below {w w' : World} {g:Nat} {s:PSchema} {dv:Value} (h:SchAt w g s dv) (hb:Below w.heap.size w w'):SchAt w' g s dv:=
 ⟨below_cell hb h.1,below_cell hb h.2.1,below_cell hb h.2.2.1,h.2.2.2.below hb⟩
theorem SchAt.box (w:World) (s:PSchema) (dv:Value) (T:TypeId) (h:Defs w dv s.defs):SchAt (w.alloc (.cells #[.int .i64 s.dims, .int .i64 s.metric,dv] T)) w.heap.size s dv:=by
 refine ⟨?_,?_,?_,h.below (below_alloc _ _)⟩<;>simp
def FewRet (w:World) (p:Prop) (e:Ending) (w' : World):Prop:=∃b:Bool,e = .returned (.bool b)∧(b=true→p)∧Below w.heap.size w w'
theorem FewRet.mk {w w' : World} {p:Prop} {b:Bool} (h:b=true→p) (hb:Below w.heap.size w w'):FewRet w p (.returned (.bool b)) w':=⟨b,rfl,h,hb⟩
def EntAt (w:World) (g:Nat) (e:PEntry) (vv av:Value):Prop:=
 w.cell? ⟨g,0,none⟩=some (.int .i64 e.id)∧w.cell? ⟨g,1,none⟩=some (.int .i64 e.ver)∧w.cell? ⟨g,2,none⟩=some (.int .i64 e.owner)∧w.cell? ⟨g,3,none⟩=some (.int .i64 e.filed) ∧
 w.cell? ⟨g,4,none⟩=some (.int .i64 e.frm)∧w.cell? ⟨g,5,none⟩=some (.int .i64 e.to)∧w.cell? ⟨g,6,none⟩=some (.int .i64 e.born)∧w.cell? ⟨g,7,none⟩=some vv∧w.cell? ⟨g,8,none⟩=some av∧Ints w vv e.vec∧Attrs w av e.attrs
theorem EntAt.below {w w' : World} {g:Nat} {e:PEntry} {vv av:Value} (h:EntAt w g e vv av) (hb:Below w.heap.size w w'):EntAt w' g e vv av:=by
 obtain ⟨h0,h1,h2,h3,h4,h5,h6,h7,h8,h9,h10⟩:=h
 exact ⟨below_cell hb h0,below_cell hb h1,below_cell hb h2,below_cell hb h3,below_cell hb h4,below_cell hb h5,below_cell hb h6,below_cell hb h7,below_cell hb h8,h9.below hb,h10.below hb⟩
theorem EntAt.box (w:World) (e:PEntry) (vv av:Value) (T:TypeId) (h:Ints w vv e.vec) (h2:Attrs w av e.attrs):EntAt (w.alloc (.cells #[.int .i64 e.id, .int .i64 e.ver, .int .i64 e.owner, .int .i64 e.filed, .int .i64 e.frm, .int .i64 e.to, .int .i64 e.born,vv,av] T)) w.heap.size e vv av:=by
 refine ⟨?_,?_,?_,?_,?_,?_,?_,?_,?_,h.below (below_alloc _ _),h2.below (below_alloc _ _)⟩<;>simp
theorem AttrAt.box (w:World) (a:PAttr) (T:TypeId):AttrAt (w.alloc (.cells #[.string a.name, .int .i64 a.kind, .int .i64 a.n, .string a.s] T)) w.heap.size 0 a:=by
 refine ⟨?_,?_,?_,?_⟩<;>simp
def GotRet (w:World) (r:PAttr×Bool) (e:Ending) (w' : World):Prop:=
 e = .returned (.agg #[.string r.1.name, .int .i64 r.1.kind, .int .i64 r.1.n, .string r.1.s, .bool r.2])∧Below w.heap.size w w'
theorem GotRet.mk {w w' : World} {r:PAttr×Bool} {a:PAttr} {b:Bool} (h:r=(a,b)) (hb:Below w.heap.size w w'):GotRet w r (.returned (.agg #[.string a.name, .int .i64 a.kind, .int .i64 a.n, .string a.s, .bool b])) w':=by
 subst h;exact ⟨rfl,hb⟩
def GetRet (w:World) (r:PAttr×Bool) (e:Ending) (w' : World):Prop:=
 e = .returned (.tuple #[attrV r.1, .bool r.2])∧Below w.heap.size w w'
theorem GetRet.mk {w w' : World} {r:PAttr×Bool} {a:PAttr} {b:Bool} (h:r=(a,b)) (hb:Below w.heap.size w w'):GetRet w r (.returned (.tuple #[.agg #[.string a.name, .int .i64 a.kind, .int .i64 a.n, .string a.s], .bool b])) w':=by
 subst h;exact ⟨rfl,hb⟩
theorem conv_bytes {w:World} {v:Value} {bs:List Int} (h:Bytes w v bs) :
  (convert 87 9 v).run Tryd.prog w = .ok (.string (strOf bs)) w:=by
 obtain ⟨a,cap,b,off,rfl,hcap,hm,ha,hc⟩:=h
 rw [run_convert_bytes_string w _ _ _ _ _ _ Tryd.underlying87 Tryd.underlying5 Tryd.underlying9]
 simp only [List.length_map] at *
 cases a with
 |none=>
  have:bs = []:=by
   cases bs with
   |nil=>rfl
   |cons x l=>simp at ha
  subst this
  rfl
 |some a=>
  refine run_bytesToString w a _ _ bs ?_
  have:=run_loadCells_list (P:=Tryd.prog) (w:=w) a (bs.map (Value.int .u8)) (fun j v hv=>by
   have hj:=(List.getElem?_eq_some_iff.1 hv).1
   have:=ha (by simp at hj;omega)
   simp only [Option.some.injEq] at this
   subst this
   rw [show (⟨b,off,none⟩:Addr).add j=⟨b,off+j,none⟩ from by simp [Addr.add]]
   exact hc j v hv)
  simpa using this
theorem elemStr:Elem1 Tryd.prog 9 (.string ⟨#[]⟩) 16:=⟨by kernel_rfl,rfl⟩
theorem StrsOpen {w:World} {v:Value} {l:List ByteArray} (h:Rd w v (l.map Value.string)):∃a cap b off,v = .slice a l.length cap∧l.length≤cap∧cap≤maxLen ∧
  (0 < l.length→a=some ⟨b,off,none⟩)∧Hid (∀j x,l[j]? = some x→w.cell? ⟨b,off+j,none⟩=some (.string x)):=by
 obtain ⟨a,cap,b,off,h1,h2,h3,h4,h5⟩:=h
 simp only [List.length_map] at h1 h2 h4
 exact ⟨a,cap,b,off,h1,h2,h3,h4,fun j x hx=>h5 j _ (by simp [hx])⟩
set_option maxRecDepth 100000 in
set_option maxHeartbeats 1000000 in
theorem wireListS (v:Value) (zs:List ByteArray) (w:World) (hv:Rd w v (zs.map Value.string)) (hf:SmallStrs zs) (hl:zs.length≤1000000):Calls Tryd.prog 75 #[v, .func (.func 48) #[] #[]] w (MadeBytes w (strsB zs)):=by
 obtain ⟨a,cap,b,off,rfl,hcap,hm,ha,hc⟩:=StrsOpen hv
 have HF:=Hid.mk hf
 have hl0:=intB_len zs.length (by omega) (by omega)
 clear hv
 go_enter Tryd.func75,Tryd.ntmps75
 go_wp2_with (go_at_call 65;refine (wireInt _ _ (by omega) (by omega)).mono ?_;rintro e w1 ⟨v1,rfl,ho1,hb1⟩)
 go_loopw [5,13] (fun o i wr=>∃k:Nat,k≤zs.length∧i = .int .i64 k∧Own w.heap.size 5 wr o ((intB zs.length ++ ((zs.take k).map strB).flatten).map (Value.int .u8))∧Below w.heap.size w wr) (fun _ i _=>zs.length - (intOf i).toNat)
 case atStart=>exact ⟨0,by omega,rfl,by simpa using ho1,hb1⟩
 case round=>
  obtain ⟨k,hk,rfl,hown,hb⟩:=hrel
  have HB:=Hid.mk hb
  clear hb
  have hb2:=HB.out.size
  by_cases hlt:k < zs.length
  ·obtain ⟨y,hy⟩:=ints_get zs k hlt
   have c1:=below_cell HB.out (hc.out k y hy)
   have y1:=HF.out y (List.mem_of_getElem? hy)
   have hl1:=strB_len y y1
   have hl2:=strs_len (zs.take k) (fun z hz=>HF.out z (List.mem_of_mem_take hz))
   have hl3:(zs.take k).length≤zs.length:=by rw [List.length_take];omega
   obtain rfl:=ha (by omega)
   have T:=Hid.mk (strs_take zs k y hy)
   clear ha hy
   go_wp2_with (first|(at_builtin;refine wp_append (.tmp 17) (.tmp 20) 87 5 1 _ elemByte rfl rfl Tryd.underlying87 w.heap.size _ _ _ _ rfl (hown.kept hb3) rfl ho3.rd (by simp only [List.length_map];omega) (oneCells _ _) (by simp only [List.length_map,List.length_append,maxLen];omega) (by simp only [List.length_map,List.length_append];omega) (by have:=hb3.size;omega) ?_;intro v' w' hown' hb')|(go_at_call 48;refine (wireBytes _ _ (by omega)).mono ?_;rintro e w3 ⟨v3,rfl,ho3,hb3⟩))
   go_roundw
   case rel=>exact ⟨k+1,by omega,by go_num,by rw [T.out,←List.append_assoc,List.map_append];exact hown',(HB.out.trans (hb3.mono hb2)).trans hb'⟩
   case measure=>simp [intOf];omega
  ·have e:zs.take k=zs:=List.take_of_length_le (by omega)
   rw [e] at hown
   go_wp2
   go_ret
   exact ⟨_,rfl,hown,HB.out⟩
theorem wireStrings (v:Value) (zs:List ByteArray) (w:World) (hv:Rd w v (zs.map Value.string)) (hf:SmallStrs zs) (hl:zs.length≤1000000):Calls Tryd.prog 61 #[v] w (MadeBytes w (strsB zs)):=by
 go_enter Tryd.func61,Tryd.ntmps61
 go_wp2_with (go_at_call 75;refine (wireListS _ zs _ hv hf hl).mono ?_;rintro e w1 ⟨v1,rfl,ho1,hb1⟩)
 go_ret
 exact ⟨_,rfl,ho1,hb1⟩
theorem zeroCells_sizeB (z:Value) (n:Nat):(Builtin.zeroCells #[z] n).size=n:=by simp [Builtin.zeroCells]
set_option maxRecDepth 100000 in
theorem slicesGrowB (n:Nat) (w:World) (hn:n≤1000000000) :
  Calls Tryd.prog 73 #[.slice none 0 0, .int .i64 n] w (MadeRow 5 w []):=by
 by_cases h0:n=0
 ·subst h0
  go_enter Tryd.func73,Tryd.ntmps73
  go_wp2
  go_ret
  exact ⟨_,rfl,Own.nil _ _ _,Below.refl _ _⟩
 ·obtain ⟨i0,hi,hz0,hz1,hz2⟩:=info_parts (elemByte).info
  have hg0:decide (0 < n)=true:=by simp;omega
  have HI:=Lib.hid hi
  have HZ0:=Lib.hid hz0
  have HZ1:=Lib.hid hz1
  have HZ2:=Lib.hid hz2
  clear hi hz0 hz1 hz2
  go_enter Tryd.func73,Tryd.ntmps73
  go_wp2_with (at_builtin;refine Lib.wpList_append_run w rfl (.tmp 20) (.tmp 21) 87 3 rfl (.slice none 0 0) (.int .i64 n) rfl rfl _ _ (Lib.run_append_nil_zeros w 87 3 _ 5 i0 _ .i64 .i64 Tryd.underlying87 Tryd.underlying3 HI.out HZ0.out n (by omega) (by rw [HZ1.out];omega) (by omega) (by rw [HZ2.out];omega)) ?_)
  go_ret
  refine ⟨_,rfl,?_,(Below.refl _ _).drew.alloc (Nat.le_refl _) _⟩
  have hge:=grownCap_ge w n 0 5
  refine World.ownsRow_made w.drew _ _ (Nat.le_refl _) (grownCap_le_maxLen w n 0 _ (by unfold maxLen;omega)) ?_
  rw [Array.size_append,zeroCells_sizeB,zeroCells_sizeB]
  omega
theorem slotsB {w:World} {v:Value} {vs:List Value} (h:Rd w v vs):∃a cap b off,v = .slice a vs.length cap∧vs.length≤cap∧cap≤maxLen∧(0 < vs.length→a=some ⟨b,off,none⟩)∧Hid (∀j u,vs[j]? = some u→w.cell? ⟨b,off+j,none⟩=some u):=h
theorem flat_stepB (ls:List (List Int)) (k:Nat) (l:List Int) (h:ls[k]? = some l):(ls.take (k+1)).flatten=(ls.take k).flatten ++ l:=by
 rw [List.take_add_one,h];simp
theorem flat_bdB (ls:List (List Int)) (k:Nat):(ls.take k).flatten.length≤ls.flatten.length:=by
 have h:ls.flatten=(ls.take k).flatten ++ (ls.drop k).flatten:=by rw [←List.flatten_append,List.take_append_drop]
 rw [h,List.length_append];omega
set_option maxRecDepth 100000 in
set_option maxHeartbeats 1000000 in
theorem slicesConcatB (v:Value) (vs:List Value) (ls:List (List Int)) (w:World) (hv:Rd w v vs) (hln:vs.length=ls.length) (hvl:vs.length≤1000000)
  (hd:Hid (∀(i:Nat) (u:Value) (l:List Int),vs[i]? = some u→ls[i]? = some l→Rd w u (l.map (Value.int .u8)))) (hl:ls.flatten.length≤1000000000) :
  Calls Tryd.prog 59 #[v] w (MadeRow 5 w (ls.flatten.map (Value.int .u8))):=by
 obtain ⟨a,cap,b,off,rfl,hcap,hm,ha,hc⟩:=slotsB hv
 clear hv
 go_enter Tryd.func59,Tryd.ntmps59
 go_wp2
 go_loop [3,11] (fun s i=>∃k:Nat,k≤vs.length∧i = .int .i64 k∧s = .int .i64 ((ls.take k).flatten.length:Nat)) (fun _ i=>vs.length - (intOf i).toNat)
 case atStart=>exact ⟨0,by omega,rfl,by simp⟩
 case round=>
  obtain ⟨k,hk,rfl,rfl⟩:=hrel
  by_cases hlt:k < vs.length
  ·obtain ⟨y,hy⟩:=ints_get vs k (by omega)
   obtain ⟨l,hl'⟩:=ints_get ls k (by omega)
   have c0:=hc.out k y hy
   obtain ⟨a2,cap2,b2,off2,rfl,-⟩:=hd.out k y l hy hl'
   rw [List.length_map] at *
   obtain rfl:=ha (by omega)
   have F:=Lib.hid (flat_stepB ls k l hl')
   have B:=flat_bdB ls (k+1)
   rw [F.out,List.length_append] at B
   clear hy hl' ha hc hd
   generalize (ls.take k).flatten=tk at *
   go_wp2
   go_round
   case rel=>exact ⟨k+1,by omega,by go_num,by rw [F.out,List.length_append];go_num⟩
   case measure=>simp [intOf];omega
  ·have e:ls.take k=ls:=List.take_of_length_le (by omega)
   rw [e]
   obtain ⟨N,hN⟩:∃N:Nat,ls.flatten.length=N:=⟨_,rfl⟩
   have HN:=Lib.hid hN
   rw [hN]
   have hl2:N≤1000000000:=by omega
   clear hN e
   go_wp2_with (go_at_call 73;refine (slicesGrowB N _ hl2).mono ?_;rintro e w1 ⟨v1,rfl,ho1,hb1⟩)
   go_loopw [6,27] (fun o i wr=>∃k:Nat,k≤vs.length∧i = .int .i64 k∧Own w.heap.size 5 wr o ((ls.take k).flatten.map (Value.int .u8))∧Below w.heap.size w wr) (fun _ i _=>vs.length - (intOf i).toNat)
   case atStart=>exact ⟨0,by omega,rfl,by simpa using ho1,hb1⟩
   case round=>
    obtain ⟨k,hk,rfl,hown,hb⟩:=hrel
    have HB:=Hid.mk hb
    clear hb
    have hb2:=HB.out.size
    by_cases hlt:k < vs.length
    ·obtain ⟨y,hy⟩:=ints_get vs k (by omega)
     obtain ⟨l,hl'⟩:=ints_get ls k (by omega)
     have c0:=below_cell HB.out (hc.out k y hy)
     have D:=Lib.hid (Rd.below (hd.out k y l hy hl') HB.out)
     have hbl:=World.block_lt_of_cell? _ _ c0
     obtain ⟨a2,cap2,b2,off2,rfl,-⟩:=D.out
     rw [List.length_map] at *
     obtain rfl:=ha (by omega)
     have F:=Lib.hid (flat_stepB ls k l hl')
     have B:=flat_bdB ls (k+1)
     rw [F.out,List.length_append] at B
     clear hy hl' ha hc hd
     go_wp2_with (at_builtin;refine wp_appendR (.tmp 31) (.tmp 32) 87 5 1 _ (elemByte) rfl rfl Tryd.underlying87 w.heap.size _ _ _ _ rfl hown rfl D.out (oneCells _ _) (by simp only [List.length_map,maxLen];omega) (by simp only [List.length_map];omega) hb2 ?_;intro v' w' hown' hb')
     go_roundw
     case rel=>exact ⟨k+1,by omega,by go_num,by rw [F.out,List.map_append];exact hown',HB.out.trans hb'⟩
     case measure=>simp [intOf];omega
    ·have e:ls.take k=ls:=List.take_of_length_le (by omega)
     rw [e] at hown
     clear hc hd ha
     go_wp2
     go_ret
     exact ⟨_,rfl,hown,HB.out⟩
structure EnvF (a:PAttr) (d:PDef) (wv:Value) (bf:ByteArray) (g h k q:Nat) (w:World):Prop where
 at_:AttrAt w g 0 a
 bf:w.cell? ⟨h,0,none⟩=some (.string bf)
 df:DefAt w k 0 d wv
 ws:Strs w wv d.words
 nm:w.cell? ⟨q,0,none⟩=some (.bool (a.kind == 1))
theorem EnvF.below {a:PAttr} {d:PDef} {wv:Value} {bf:ByteArray} {g h k q:Nat} {w w' : World} (e:EnvF a d wv bf g h k q w) (hb:Below w.heap.size w w'):EnvF a d wv bf g h k q w':=
 ⟨e.at_.below hb,below_cell hb e.bf,e.df.below hb,e.ws.below hb,below_cell hb e.nm⟩
def Two (H:Nat) (x y:Value) (v:Value) (w:World):Prop:=∃g,v = .slice (some ⟨g,0,none⟩) 2 2∧H≤g∧w.cell? ⟨g,0,none⟩=some x∧w.cell? ⟨g,1,none⟩=some y
theorem Two.below {H:Nat} {x y v:Value} {w w' : World} (h:Two H x y v w) (hb:Below w.heap.size w w'):Two H x y v w':=by
 obtain ⟨g,h1,h2,h3,h4⟩:=h
 exact ⟨g,h1,h2,below_cell hb h3,below_cell hb h4⟩
theorem Two.rd {H:Nat} {x y v:Value} {w:World} (h:Two H x y v w):Rd w v [x,y]:=by
 obtain ⟨g,rfl,h2,h3,h4⟩:=h
 refine ⟨_,2,g,0,rfl,by simp,by simp [maxLen],fun _=>rfl,fun j u hu=>?_⟩
 match j,hu with
 |0,hu=>simp at hu;subst hu;exact h3
 |1,hu=>simp at hu;subst hu;exact h4
theorem Own.lt {B E:Nat} {w:World} {v:Value} {cs:List Value} (h:Own B E w v cs):∀k,v.ownBlock=some k→B≤k∧k < w.heap.size:=World.ownsRow.lt h
end
end Go.Proofs.YtmeekbjhpidcgaaDoor
