/- Out of: Nz2, PwWk, Da, Db, Dc, Dd, De, Df, Dh, Ja, Dg, Sort, Di, PwRn, Jb, Jc, Je, Kb, Kc, PwIt2. -/
import Derived.Sort.OwnSortedInts
import Derived.Test.YtmciloafahkolaaGreatDoorShelf
import Derived.Test.YtmciloafahkolaaGreatDoorG4
namespace Go.Proofs.YtmciloafahkolaaGreatDoor
set_option maxRecDepth 100000
set_option maxHeartbeats 40000000
set_option linter.unusedSimpArgs false
set_option linter.unusedVariables false
set_option linter.unnecessarySimpa false
section
open Go.RowKit
theorem X61 (b:Nat) (T:TypeId) (fz:Nat×Nat):∀(vs:List Value) (o:Nat) (w:World) (cur:Array Value),w.heap[b]? = some (.cells cur T fz)→o+vs.length≤cur.size →
  ∃cur',(w.setCells b o vs).heap[b]? = some (.cells cur' T fz)∧cur'.size=cur.size∧(∀j,cur'[j]? = if o≤j∧j < o+vs.length then vs[j - o]? else cur[j]?)∧∀S,(∀k,S k→k≠b)→Kept S w (w.setCells b o vs)
 | [],o,w,cur,h,_=>⟨cur,h,rfl,fun j=>by rw [if_neg (by simp only [List.length_nil];omega)],fun S _=>Kept.refl S w⟩
 |v :: r,o,w,cur,h,hl=>by
  simp only [C_] at hl
  have h1:(w.setCell ⟨b,o,none⟩ v).heap[b]? = some (.cells (cur.setIfInBounds o v) T fz):=by
   simp [World.setCell,Array.getElem?_modify,h]
  obtain ⟨cur',e1,e2,e3,e4⟩:=X61 b T fz r (o+1) (w.setCell ⟨b,o,none⟩ v) (cur.setIfInBounds o v) h1 (by simp;omega)
  refine ⟨cur',e1,by simpa using e2,fun j=>?_,fun S hS=>?_⟩
  ·rw [e3 j,C_]
   by_cases h0:j=o
   ·subst h0
    rw [if_neg O_,if_pos O_,Nat.sub_self]
    simp only [List.getElem?_cons_zero,Array.getElem?_setIfInBounds,if_true]
    rw [if_pos O_]
   ·by_cases h2:o+1≤j∧j < o+1+r.length
    ·rw [if_pos h2,if_pos O_,show j - o=(j - (o+1))+1 by omega,List.getElem?_cons_succ]
    ·rw [if_neg h2,if_neg O_,Array.getElem?_setIfInBounds,if_neg (fun e=>h0 e.symm)]
  ·refine Kept.trans (b:=w.setCell ⟨b,o,none⟩ v) ⟨rfl,rfl,rfl,by simp [World.setCell],fun k hk=>?_⟩ (e4 S hS)
   simp only [World.setCell,Array.getElem?_modify]
   rw [if_neg (fun e=>hS k hk e.symm)]
def Xr7 (b n:Nat) (new:List Value) (w:World) (e:Ending) (w' : World):Prop:=
 ∃b' cap cur,e = .returned (.slice (some ⟨b',0,none⟩) (n+1) cap)∧w'.heap[b']? = some (.cells cur 59 (0,0))∧n+1≤cap∧cap≤maxLen∧(∀(j:Nat) (v:Value),new[j]? = some v→cur[j]? = some v)∧(b' = b∨w.heap.size≤b')∧Kept (fun k=>k < w.heap.size∧k≠b) w w'
theorem X63 {w:World} {b:Nat} {cur:Array Value} {T:TypeId} {fz:Nat×Nat} (h:w.heap[b]? = some (.cells cur T fz)) (j:Nat):w.cell? ⟨b,j,none⟩=cur[j]?:=by
 simp [World.cell?,h]
theorem X93 {w:World} {b:Nat} {cur:Array Value} {T:TypeId} (h:w.heap[b]? = some (.cells cur T (0,0))) (j:Nat):w.frozen? ⟨b,j,none⟩=false:=by
 simp [World.frozen?,h]
theorem Xj9 {w:World} {b:Nat} {cur:Array Value} {T:TypeId} {fz:Nat×Nat} (h:w.heap[b]? = some (.cells cur T fz)):w.shape? b=some (T,cur.size):=by
 simp [World.shape?,h]
theorem Y14 {w:World} {b:Nat} {o:Obj} (h:w.heap[b]? = some o):b < w.heap.size:=(Array.getElem?_eq_some_iff.1 h).1
theorem Y47 (b n c i vb vc:Nat) (cs vs:List Value) (w:World) (cur0 curv:Array Value) (E2:TypeId) (hb:w.heap[b]? = some (.cells cur0 59 (0,0))) (hc0:cur0.size=c * 3) (hnc:n≤c) (hcm:c≤maxLen) (hv:w.heap[vb]? = some (.cells curv E2 (0,0))) (hvb:vb≠b) (hi:i≤n) (hbig:(n+1) * 32≤140737488355328)
  (hcl:cs.length=n * 3) (hvl:vs.length=3) (hcs:∀(j:Nat) (v:Value),cs[j]? = some v→cur0[j]? = some v) (hvs:∀(j:Nat) (v:Value),vs[j]? = some v→curv[j]? = some v) (h1c:∀v∈cs,v.oneCell' = true) (h1v:∀v∈vs,v.oneCell' = true) :
  Calls Tryz.prog 74 #[.slice (some ⟨b,0,none⟩) n c, .int .i64 i, .slice (some ⟨vb,0,none⟩) 1 vc] w (Xr7 b n (cs.take (i * 3) ++ vs ++ cs.drop (i * 3)) w):=by
 have hc63:c≤9223372036854775807:=by unfold maxLen at hcm;omega
 have hcs' : ∀(j:Nat) (v:Value),cs[j]? = some v→w.cell? ⟨b,j,none⟩=some v:=fun j v e=>(X63 hb j).trans (hcs j v e)
 have hvs' : ∀(j:Nat) (v:Value),vs[j]? = some v→w.cell? ⟨vb,j,none⟩=some v:=fun j v e=>(X63 hv j).trans (hvs j v e)
 have hcell:∀j,j < c * 3→(w.cell? ⟨b,j,none⟩).isSome=true:=fun j hj=>by rw [X63 hb,Array.getElem?_eq_getElem O_];rfl
 have hfz:∀j,w.frozen? ⟨b,j,none⟩=false:=X93 hb
 have hbl:=Y14 hb
 have htl:(cs.take (i * 3)).length=i * 3:=by rw [T_];omega
 have hcd:(cs.drop (i * 3)).length=(n - i) * 3:=by rw [L_,hcl];omega
 have hnew:∀(j:Nat) (v:Value),(cs.take (i * 3) ++ vs ++ cs.drop (i * 3))[j]? = some v→(j < i * 3∧cs[j]? = some v)∨(i * 3≤j∧j < (i+1) * 3∧vs[j - i * 3]? = some v)∨((i+1) * 3≤j∧(cs.drop (i * 3))[j - (i+1) * 3]? = some v):=by
  intro j v hj
  by_cases h1:j < i * 3
  ·left
   rw [List.append_assoc,List.getElem?_append_left O_,List.getElem?_take,if_pos h1] at hj
   exact ⟨h1,hj⟩
  ·by_cases h2:j < (i+1) * 3
   ·right;left
    rw [List.append_assoc,List.getElem?_append_right O_,htl,List.getElem?_append_left O_] at hj
    exact ⟨O_,h2,hj⟩
   ·right;right
    rw [List.getElem?_append_right (by rw [A_];omega),A_,htl,hvl] at hj
    exact ⟨O_,by rw [show (i+1) * 3=i * 3+3 by omega];exact hj⟩
 have hdj:∀(q:Nat) v,(cs.drop (i * 3))[q]? = some v→q < (n - i) * 3:=fun q v e=>by have:=(List.getElem?_eq_some_iff.1 e).1;omega
 by_cases hroom:n+1≤c
 ·by_cases hin:i < n
  ·refine (Xqz b n c i vb vc cs vs w hin hroom hc63 hvb hcl hvl hcs' (fun j hj=>hcell j O_) (fun j _=>hfz j) hvs' h1c h1v _ _ _ _ (Xj9 hv) (Xj9 hb) O_ (X93 hv 0) (X93 hv _)).mono ?_
   rintro e w' ⟨rfl,rfl⟩
   obtain ⟨cur1,a1,a2,a3,a4⟩:=X61 b _ _ (cs.drop (i * 3)) ((i+1) * 3) w.drew cur0 hb (by rw [hcd];omega)
   obtain ⟨cur2,b1,b2,b3,b4⟩:=X61 b _ _ vs (i * 3) _ cur1 a1 (by rw [hvl];omega)
   refine ⟨b,c,cur2,rfl,b1,hroom,hcm,fun j v hj=>?_, .inl rfl,(Kept.refl _ w).drew.trans ((a4 _ (fun k hk=>hk.2)).trans (b4 _ (fun k hk=>hk.2)))⟩
   rw [b3 j,a3 j,hvl,hcd]
   rcases hnew j v hj with ⟨h1,h2⟩|⟨h1,h2,h3⟩|⟨h1,h2⟩
   ·rw [if_neg O_,if_neg O_];exact hcs j v h2
   ·rw [if_pos O_];exact h3
   ·have:=hdj _ v h2
    rw [if_neg O_,if_pos O_];exact h2
  ·obtain rfl:i=n:=O_
   refine (Xi3 b i c vb vc vs w hroom hc63 hvl (fun j hj=>hcell _ O_) (fun j _=>hfz _) hvs' h1v).mono ?_
   rintro e w' ⟨rfl,rfl⟩
   obtain ⟨cur1,a1,a2,a3,a4⟩:=X61 b _ _ vs (i * 3) w cur0 hb (by rw [hvl];omega)
   refine ⟨b,c,cur1,rfl,a1,hroom,hcm,fun j v hj=>?_, .inl rfl,a4 _ (fun k hk=>hk.2)⟩
   rw [a3 j,hvl]
   rcases hnew j v hj with ⟨h1,h2⟩|⟨h1,h2,h3⟩|⟨h1,h2⟩
   ·rw [if_neg O_];exact hcs j v h2
   ·rw [if_pos O_];exact h3
   ·have:=hdj _ v h2
    omega
 ·have hcap:grownCap w (n+1) c 59≤maxLen:=grownCap_le_maxLen w (n+1) c 59 (by unfold maxLen;omega)
  have hge:n+1≤grownCap w (n+1) c 59:=grownCap_ge w _ _ _
  by_cases hin:i < n
  ·refine (Xwg b n c i vb vc cs vs w hin hnc O_ hbig hcl hvl hcs' hvs' h1c h1v).mono ?_
   rintro e w' ⟨ROW,r1,r2,rfl,rfl⟩
   have r0:(w.alloc (.cells ROW 59)).drew.heap[w.heap.size]? = some (.cells ROW 59 (0,0)):=heap_alloc_new w _
   obtain ⟨cur1,a1,a2,a3,a4⟩:=X61 w.heap.size _ _ vs (i * 3) _ ROW r0 (by rw [hvl];omega)
   obtain ⟨cur2,b1,b2,b3,b4⟩:=X61 w.heap.size _ _ (cs.drop (i * 3)) ((i+1) * 3) _ cur1 (show ((((w.alloc (.cells ROW 59)).drew).setCells w.heap.size (i * 3) vs).drew).heap[w.heap.size]? = _ from a1) (by rw [hcd];omega)
   have k0:Kept (fun k=>k < w.heap.size∧k≠b) w (w.alloc (.cells ROW 59)).drew:=⟨rfl,rfl,rfl,by show w.heap.size≤(w.heap.push _).size;rw [Array.size_push];omega,fun k hk=>by
    show (w.heap.push _)[k]? = _
    rw [Array.getElem?_push,if_neg O_]⟩
   refine ⟨w.heap.size,_,cur2,rfl,b1,hge,hcap,fun j v hj=>?_, .inr (Nat.le_refl _),k0.trans ((a4 _ (fun k hk=>by omega)).drew.trans (b4 _ (fun k hk=>by omega)))⟩
   rw [b3 j,a3 j,hvl,hcd]
   rcases hnew j v hj with ⟨h1,h2⟩|⟨h1,h2,h3⟩|⟨h1,h2⟩
   ·rw [if_neg O_,if_neg O_]
    have e1:(cs.take (i * 3))[j]? = some v:=by rw [List.getElem?_take,if_pos h1];exact h2
    rw [r1,List.getElem?_take,if_pos h1] at e1
    simpa using e1
   ·rw [if_neg O_,if_pos O_];exact h3
   ·have:=hdj _ v h2
    rw [if_pos O_];exact h2
  ·obtain rfl:i=n:=O_
   refine (X9z (some ⟨b,0,none⟩) i c vb vc cs vs w hnc O_ hbig hcl hvl S_ (fun a e j v hj=>by cases e;rw [Addr.add_lit,Nat.zero_add];exact hcs' j v hj) hvs' h1v).mono ?_
   rintro e w' ⟨ROW,r1,r2,rfl,rfl⟩
   have r0:(w.alloc (.cells ROW 59)).drew.heap[w.heap.size]? = some (.cells ROW 59 (0,0)):=heap_alloc_new w _
   refine ⟨w.heap.size,_,ROW,rfl,r0,hge,hcap,fun j v hj=>?_, .inr (Nat.le_refl _),⟨rfl,rfl,rfl,by show w.heap.size≤(w.heap.push _).size;rw [Array.size_push];omega,fun k hk=>by
    show (w.heap.push _)[k]? = _
    rw [Array.getElem?_push,if_neg O_]⟩⟩
   rw [H_ O_,List.drop_of_length_le O_,List.append_nil,r1,List.getElem?_take] at hj
   split at hj
   ·simpa using hj
   ·cases hj
theorem Y34 (base:Option Addr) (vb vc:Nat) (vs:List Value) (w:World) (curv:Array Value) (E2:TypeId) (hv:w.heap[vb]? = some (.cells curv E2 (0,0))) (b:Nat)
  (hvl:vs.length=3) (hvs:∀(j:Nat) (v:Value),vs[j]? = some v→curv[j]? = some v) (h1v:∀v∈vs,v.oneCell' = true) :
  Calls Tryz.prog 74 #[.slice base 0 0, .int .i64 0, .slice (some ⟨vb,0,none⟩) 1 vc] w (Xr7 b 0 vs w):=by
 have hvs' : ∀(j:Nat) (v:Value),vs[j]? = some v→w.cell? ⟨vb,j,none⟩=some v:=fun j v e=>(X63 hv j).trans (hvs j v e)
 have hcap:grownCap w (0+1) 0 59≤maxLen:=grownCap_le_maxLen w (0+1) 0 59 (by unfold maxLen;omega)
 have hge:0+1≤grownCap w (0+1) 0 59:=grownCap_ge w _ _ _
 refine (X9z base 0 0 vb vc [] vs w (Nat.le_refl _) O_ O_ rfl hvl (fun _=>rfl) (fun a e j v hj=>by simp at hj) hvs' h1v).mono ?_
 rintro e w' ⟨ROW,r1,r2,rfl,rfl⟩
 have r0:(w.alloc (.cells ROW 59)).drew.heap[w.heap.size]? = some (.cells ROW 59 (0,0)):=heap_alloc_new w _
 refine ⟨w.heap.size,_,ROW,rfl,r0,hge,hcap,fun j v hj=>?_, .inr (Nat.le_refl _),⟨rfl,rfl,rfl,by show w.heap.size≤(w.heap.push _).size;rw [Array.size_push];omega,fun k hk=>by
  show (w.heap.push _)[k]? = _
  rw [Array.getElem?_push,if_neg O_]⟩⟩
 rw [List.nil_append] at r1
 rw [r1,List.getElem?_take] at hj
 split at hj
 ·simpa using hj
 ·cases hj
structure Y1n (q:Prop):Prop where
 out:q
theorem ops0 {p q:Prop} (k:q) (h:Y1n q→p:=by intro hHold;((with_reducible refine X5.idd ?_);first|(first|(refine X5.cvI rfl rfl rfl rfl ?_ ?_ rfl ?_;(first|omega|(dsimp only;omega));(first|omega|(dsimp only;omega)))|refine X5.stepA rfl ?_|refine X5.doneI rfl ?_|(refine X5.boolK true rfl rfl rfl rfl ?_ rfl ?_;(first|rfl|assumption|(simp only [decide_eq_true_eq,decide_eq_false_iff_not,bne_iff_ne,beq_iff_eq,beq_eq_false_iff_ne,bne_eq_false_iff_eq,ne_eq];omega)))|(refine X5.boolK false rfl rfl rfl rfl ?_ rfl ?_;(first|rfl|assumption|(simp only [decide_eq_true_eq,decide_eq_false_iff_not,bne_iff_ne,beq_iff_eq,beq_eq_false_iff_ne,bne_eq_false_iff_eq,ne_eq];omega)))|(refine X5.fitsK rfl rfl rfl rfl ?_ ?_ rfl ?_;(first|omega|(dsimp only;omega));(first|omega|(dsimp only;omega)))|(refine X5.remK rfl rfl rfl rfl ?_ rfl ?_;(first|omega|(dsimp only;omega)))|(refine X5.quoK rfl rfl rfl rfl ?_ rfl ?_;(first|omega|(dsimp only;omega)))|(refine X5.app rfl rfl rfl rfl rfl rfl rfl rfl ?_ ?_ ?_ ?_;(first|omega|(dsimp only;omega));(first|omega|(dsimp only;omega));first|rfl|exact Ko _|exact X0l _|exact X35 _|exact X2w _|exact X0g _|exact X05 _)|(refine X5.app0 rfl rfl rfl rfl rfl rfl rfl rfl ?_ ?_ ?_ ?_;(first|omega|(dsimp only;omega));(first|omega|(dsimp only;omega));first|rfl|exact Ko _|exact X0l _|exact X35 _|exact X2w _|exact X0g _|exact X05 _)|(refine X5.idx1 rfl rfl rfl rfl rfl rfl rfl rfl ?_ ?_;(first|omega|(dsimp only;omega)))|(refine X5.idx rfl rfl rfl rfl rfl rfl rfl rfl ?_ ?_;(first|omega|(dsimp only;omega)))|refine X5.ld rfl rfl rfl rfl rfl rfl rfl (by assumption) rfl ?_|refine X5.ldA rfl rfl rfl rfl rfl rfl (by (first|omega|(dsimp only;omega))) (by assumption) ?_|refine X5.str rfl rfl rfl rfl rfl rfl rfl rfl rfl rfl rfl ?_)|(first|refine X5.arU rfl rfl rfl rfl rfl rfl ?_|(refine X5.boxA rfl rfl rfl rfl rfl ?_ ?_ ?_;(first|rfl|exact Ko _|exact X65 _|exact X0l _|exact X8x (fun _=>rfl) _);(first|rfl|exact Xt _|exact Y7 _|exact K2 _|exact Yx (fun _=>rfl) _))|(refine X5.litA rfl rfl rfl rfl rfl rfl rfl ?_ rfl rfl rfl ?_ ?_ ?_;(first|rfl|exact Xl _|exact Y3 _|exact Yi _|exact Yd (by assumption)|exact Yd rfl);(first|rfl|exact Ko _|exact X65 _|exact X0l _|exact X8x (fun _=>rfl) _);(first|rfl|exact Xt _|exact Y7 _|exact K2 _|exact Yx (fun _=>rfl) _))|(refine X5.shlK rfl rfl rfl rfl rfl rfl ?_ ?_;(first|omega|(dsimp only;omega)|decide))|(refine X5.shrK rfl rfl rfl rfl rfl rfl ?_ ?_;(first|omega|(dsimp only;omega)|decide))|refine X5.ldBC rfl rfl rfl rfl rfl rfl rfl rfl (by (first|exact Xl|exact Y3|exact Yi|(intro;rfl))) (by (first|omega|(dsimp only;omega))) (by (first|rfl|exact Xv0 _)) rfl ?_|refine X5.ldRB rfl rfl rfl rfl rfl rfl (by (first|exact Xl|exact Y3|exact Yi|(intro;rfl))) (by (first|omega|(dsimp only;omega))) (by (first|exact Xt|exact Y7|exact K2|(intro;rfl))) ?_|refine X5.ldSec rfl rfl rfl rfl rfl rfl rfl (by first|with_reducible rfl|with_reducible exact Y4i _) (by rfl) (by (first|omega|(dsimp only;omega))) ?_|refine X5.ldBR rfl rfl rfl rfl rfl rfl rfl (by (first|exact Xl|exact Y3|exact Yi|(intro;rfl))) (by (first|omega|(dsimp only;omega))) (by (first|exact Xt _|exact Y7 _|exact K2 _|rfl)) ?_|refine X5.lkp rfl rfl rfl rfl rfl rfl rfl rfl rfl rfl rfl (by assumption) ?_|(refine X5.ldAll rfl rfl rfl rfl rfl rfl rfl ?_ ?_ ?_;(first|rfl|exact Xl _|exact Y3 _|exact Yi _|exact Yd (by assumption)|exact Yd rfl);(first|rfl|exact Xt _|exact Y7 _|exact K2 _|exact Yx (fun _=>rfl) _))|(refine X5.stAll rfl rfl rfl rfl rfl rfl rfl rfl rfl ?_ ?_ ?_ ?_ ?_;(first|rfl|exact Xl _|exact Y3 _|exact Yi _|exact Yd (by assumption)|exact Yd rfl);(first|rfl|exact Xl _|exact Y3 _|exact Yi _|exact Yd (by assumption)|exact Yd rfl);(first|rfl|exact Ko _|exact X65 _|exact X0l _|exact X8x (fun _=>rfl) _);(first|rfl|exact Xt _|exact Y7 _|exact K2 _|exact Yx (fun _=>rfl) _))|(refine X5.idxM rfl rfl rfl rfl rfl rfl rfl rfl ?_ ?_;(first|omega|(dsimp only;omega)))|(refine X5.idxP1 rfl rfl rfl rfl rfl rfl rfl rfl ?_ ?_;(first|omega|(dsimp only;omega)))|(refine X5.idxP rfl rfl rfl rfl rfl rfl rfl rfl ?_ ?_;(first|omega|(dsimp only;omega)))|(refine X5.call rfl rfl rfl (by assumption) ?_)|(refine X5.callR rfl rfl (by assumption) (by (first|exact trivial|(refine ⟨⟨rfl,rfl⟩,?_⟩;first|exact trivial|(refine ⟨⟨rfl,rfl⟩,?_⟩;first|exact trivial|(refine ⟨⟨rfl,rfl⟩,?_⟩;first|exact trivial|(refine ⟨⟨rfl,rfl⟩,?_⟩;first|exact trivial|(refine ⟨⟨rfl,rfl⟩,?_⟩;first|exact trivial|(refine ⟨⟨rfl,rfl⟩,?_⟩;first|exact trivial|(refine ⟨⟨rfl,rfl⟩,?_⟩;first|exact trivial|(refine ⟨⟨rfl,rfl⟩,?_⟩;first|exact trivial|fail)))))))))) (by (first|exact trivial|(refine ⟨⟨rfl,rfl⟩,?_⟩;first|exact trivial|(refine ⟨⟨rfl,rfl⟩,?_⟩;first|exact trivial|(refine ⟨⟨rfl,rfl⟩,?_⟩;first|exact trivial|(refine ⟨⟨rfl,rfl⟩,?_⟩;first|exact trivial|(refine ⟨⟨rfl,rfl⟩,?_⟩;first|exact trivial|(refine ⟨⟨rfl,rfl⟩,?_⟩;first|exact trivial|(refine ⟨⟨rfl,rfl⟩,?_⟩;first|exact trivial|(refine ⟨⟨rfl,rfl⟩,?_⟩;first|exact trivial|fail)))))))))) rfl (by first|exact .inl rfl|exact .inr (fun _ _=>rfl)) ?_)|(refine X5.callH rfl rfl (by assumption) (by (first|exact trivial|(refine ⟨⟨rfl,rfl⟩,?_⟩;first|exact trivial|(refine ⟨⟨rfl,rfl⟩,?_⟩;first|exact trivial|(refine ⟨⟨rfl,rfl⟩,?_⟩;first|exact trivial|(refine ⟨⟨rfl,rfl⟩,?_⟩;first|exact trivial|(refine ⟨⟨rfl,rfl⟩,?_⟩;first|exact trivial|(refine ⟨⟨rfl,rfl⟩,?_⟩;first|exact trivial|(refine ⟨⟨rfl,rfl⟩,?_⟩;first|exact trivial|(refine ⟨⟨rfl,rfl⟩,?_⟩;first|exact trivial|fail)))))))))) (by (first|exact trivial|(refine ⟨⟨rfl,rfl⟩,?_⟩;first|exact trivial|(refine ⟨⟨rfl,rfl⟩,?_⟩;first|exact trivial|(refine ⟨⟨rfl,rfl⟩,?_⟩;first|exact trivial|(refine ⟨⟨rfl,rfl⟩,?_⟩;first|exact trivial|(refine ⟨⟨rfl,rfl⟩,?_⟩;first|exact trivial|(refine ⟨⟨rfl,rfl⟩,?_⟩;first|exact trivial|(refine ⟨⟨rfl,rfl⟩,?_⟩;first|exact trivial|(refine ⟨⟨rfl,rfl⟩,?_⟩;first|exact trivial|fail)))))))))) rfl (by first|exact .inl rfl|exact .inr (fun _ _=>rfl)) ?_)|(refine X5.idxZ1 rfl rfl rfl rfl rfl rfl rfl rfl ?_ ?_;(first|omega|(dsimp only;omega)))|(refine X5.idxZ rfl rfl rfl rfl rfl rfl rfl rfl ?_ ?_;(first|omega|(dsimp only;omega)))|refine X5.ld rfl rfl rfl rfl rfl rfl rfl rfl rfl ?_|(refine X5.slcL rfl rfl rfl rfl rfl rfl rfl rfl ?_ ?_;(first|omega|(dsimp only;omega)))|(refine X5.slcH rfl rfl rfl rfl rfl rfl rfl rfl ?_ ?_;(first|omega|(dsimp only;omega)))|refine X5.slcRL rfl rfl rfl rfl rfl rfl rfl rfl (by intro;rfl) (by (first|omega|(dsimp only;omega))) ?_|refine X5.slcRH rfl rfl rfl rfl rfl rfl rfl rfl (by intro;rfl) (by (first|omega|(dsimp only;omega))) ?_|(refine X5.slcM rfl rfl rfl rfl rfl rfl rfl rfl rfl ?_ ?_;(first|omega|(dsimp only;omega)))|(refine X5.ldM rfl rfl rfl rfl rfl rfl rfl ?_ rfl ?_;(first|omega|(dsimp only;omega)))|refine X5.ldR rfl rfl rfl rfl rfl rfl rfl (by (first|exact Xl|exact Y3|exact Yi|(intro;rfl))) (by (first|omega|(dsimp only;omega))) rfl rfl ?_|refine X5.ldRA rfl rfl rfl rfl rfl rfl (by intro;rfl) (by (first|omega|(dsimp only;omega))) rfl ?_|(refine X5.slcP rfl rfl rfl rfl rfl rfl rfl rfl rfl ?_ ?_;decide)|(refine X5.idxE1 rfl rfl rfl rfl rfl rfl rfl rfl ?_ ?_;(first|omega|(dsimp only;omega)))|(refine X5.ldG rfl rfl rfl rfl rfl rfl ?_ ?_ ?_;(first|rfl|exact Xl _|exact Y3 _|exact Yi _|exact Yd (by assumption)|exact Yd rfl);(first|rfl|exact Xt _|exact Y7 _|exact K2 _|exact Yx (fun _=>rfl) _))|(refine X5.ldMB rfl rfl rfl rfl rfl rfl rfl rfl ?_ rfl rfl ?_;(first|omega|(dsimp only;omega)))|(refine X5.stMB rfl rfl rfl rfl rfl rfl rfl rfl rfl rfl ?_ ?_;(first|omega|(dsimp only;omega)))|(refine X5.idxV rfl rfl rfl rfl rfl rfl rfl rfl ?_ rfl ?_;(first|omega|(dsimp only;omega)))));exact hHold.out):p:=h ⟨k⟩
theorem jw0 {p q:Prop} (k:q) (h:Y1n q→p:=by intro hHold;((repeat (first|(with_reducible first|refine Yad ?_|refine Xsx ?_|refine Xol ?_|refine Y81 ?_|refine Xlr ?_|refine Xpx ?_|refine Xhg D_ ?_|refine Xpd ?_|refine Xrm ?_|refine PWJ.seq ?_|refine PWJ.block ?_|refine PWJ.skip ?_|refine PWJ.ret ?_|refine PWJ.exit ?_|refine PWJ.condT rfl ?_|refine PWJ.condF rfl ?_)|refine PWJ.condT rfl ?_|refine PWJ.condF rfl ?_)));exact hHold.out):p:=h ⟨k⟩
theorem li0 {p:Prop} (h:p:=by (repeat (first|exact Y2|exact X2i|refine Yt ?_ ?_|refine X9 ?_ ?_|exact Zi (by first|(simp [X0];done)|(simp [X0,dG,dMs];done)|(simp [X0,dG,dMs,crG,crM];done)|(simp [X0,dG,dMs,jG];done)) (by first|(simp [X0];done)|(simp [X0,dG,dMs];done)|(simp [X0,dG,dMs,crG,crM];done)|(simp [X0,dG,dMs,jG];done)) _|exact X1h (Xm _)|exact LowI.ptr _ _ (by first|(simp [X0];done)|(simp [X0,dG,dMs];done)|(simp [X0,dG,dMs,crG,crM];done)|(simp [X0,dG,dMs,jG];done))|exact LowI.mref _ (by first|(simp [X0];done)|(simp [X0,dG,dMs];done)|(simp [X0,dG,dMs,crG,crM];done)|(simp [X0,dG,dMs,jG];done))|exact LowI.msl _ _ _ _ (by first|(simp [X0];done)|(simp [X0,dG,dMs];done)|(simp [X0,dG,dMs,crG,crM];done)|(simp [X0,dG,dMs,jG];done))|exact LowI.val _|exact LowI.nilsl|exact Low.lowI (Kw _)|exact Low.lowI (X85 _)|exact X1h (Zc _)|exact X1h (by assumption)|refine LowI.agg _ ?_|refine LowI.fn _ _ ?_|refine LowI.tup _ ?_|refine LowI.sl _ _ _ _ ?_))):p:=h
theorem rq0 {p:Prop} (h:p:=by (first|exact .inl (.ptr _ _ rfl)|exact .inl (.msl _ _ _ _ rfl)|exact .inl (.mref _ rfl)|exact .inl (.low _ (by exact lw))|exact .inr (.inl (.low _ (by exact lw)))|exact .inr (.inr ⟨_,_,rfl,rfl⟩))):p:=h
theorem rl0 {p:Prop} (h:p:=by (first|exact X5m.low (by first|assumption|exact hlow _|exact hlow _ _|exact Kx (fun _=>Low.val _) _)|exact X5m.lowE (by assumption) (Kx (fun _=>Low.val _) _)|((repeat (refine X5m.cons ?_ ?_;exact rq0));exact X5m.nil))):p:=h
theorem lt0 {p:Prop} (h:p:=by (repeat (first|exact Xy1|refine Xyx ?_ (by first|exact .ptr _ _ rfl|exact .mref _ rfl|exact Low.lowI (by exact lw))|refine Xr3 ?_|refine Xso ?_))):p:=h
theorem ow0 {p:Prop} (h:p:=by (repeat (first|exact Xvf|refine X6i.put ?_ rfl|refine X6i.setb ?_ (by first|exact X59|exact X20 (X4b rfl) X59|exact X20 (X4b rfl) (X20 (X4b rfl) X59)|assumption)))):p:=h
theorem kn0 {p:Prop} (h:p:=by (repeat (first|exact Y6e|refine Y6s ?_|refine Y26 ?_|refine Y38 ?_))):p:=h
theorem hok0 {p:Prop} (h:p:=by (refine ⟨by exact li0,by exact li0,by first|exact Vw|exact X8u (Xi _) Vw,?_,by exact li0,by first|exact Vw|exact X8u (Xi _) Vw,by first|(simp;done)|(simp [jG,dG];done),by first|(simp;done)|(simp [dMs];done)⟩;exact li0)):p:=h
theorem ren0 {p:Prop} (h:p:=by (repeat (first|exact RenL.nil|exact RenB.nil|exact Kc.nil|exact Kc.cons _ _ _ _ _ (RenM.low (Xi _)) Kc.nil|refine RenB.cons _ _ _ _ _ ?_ ?_|exact RenL.low (Xm _)|refine RenL.cons ?_ ?_|exact Ren.ptr _ _ (by first|(simp [X0];done)|(simp [X0,dG,dMs];done)|(simp [X0,dG,dMs,crG,crM];done)|(simp [X0,dG,dMs,jG];done))|exact Ren.mref _ (by first|(simp [X0];done)|(simp [X0,dG,dMs];done)|(simp [X0,dG,dMs,crG,crM];done)|(simp [X0,dG,dMs,jG];done))|exact Ren.msl _ _ _ _ (by first|(simp [X0];done)|(simp [X0,dG,dMs];done)|(simp [X0,dG,dMs,crG,crM];done)|(simp [X0,dG,dMs,jG];done))|exact Ren.low _ (Low.val _)|exact Ren.low _ (Kw _)|exact Ren.low _ (X85 _)|exact RenL.low (by assumption)|refine Xlq ?_|refine Xjg ?_|refine Y6h ?_))):p:=h
theorem sb4 {p:Prop} (h:p:=by (refine Sub.same ?_;(repeat (first|exact SubR.bot|((with_reducible refine SubR.isp ?_);refine SubR.put ?_ (.inl (Xoi rfl rfl rfl rfl rfl rfl)))|((with_reducible refine SubR.isp ?_);refine SubR.put ?_ (by exact rq0))|((with_reducible refine SubR.isb ?_);refine SubR.setb ?_ rfl rfl (by exact rl0))|((with_reducible refine SubR.ism ?_);refine SubR.setm ?_ rfl rfl (by (first|exact ⟨rfl,rfl,rfl,rfl,rfl⟩|exact RenM.low (by first|assumption|exact hlowm _|exact hlowm _ _)))))))):p:=h
theorem sb2 {p:Prop} (h:p:=by (refine Sub.same ?_;(repeat (first|exact SubR.bot|((with_reducible refine SubR.isp ?_);refine SubR.put ?_ (.inl (X97 (ρ:=fun i=>i) rfl rfl rfl rfl)))|((with_reducible refine SubR.isp ?_);refine SubR.put ?_ (by exact rq0))|((with_reducible refine SubR.isb ?_);refine SubR.setb ?_ rfl rfl (by exact rl0))|((with_reducible refine SubR.ism ?_);refine SubR.setm ?_ rfl rfl (by (first|exact ⟨rfl,rfl,rfl,rfl,rfl⟩|exact RenM.low (by first|assumption|exact hlowm _|exact hlowm _ _)))))))):p:=h
theorem sbr0 {p:Prop} (h:p:=by (repeat (first|exact SubR.bot|((with_reducible refine SubR.isp ?_);refine SubR.put ?_ (by exact rq0))|((with_reducible refine SubR.isb ?_);refine SubR.setb ?_ rfl rfl (by exact rl0))|((with_reducible refine SubR.ism ?_);refine SubR.setm ?_ rfl rfl (by (first|exact ⟨rfl,rfl,rfl,rfl,rfl⟩|exact RenM.low (by first|assumption|exact hlowm _|exact hlowm _ _))))))):p:=h
structure Hold (q:Prop):Prop where
 out:q
theorem wk {p q:Prop} (k:q) (h:Hold q→p:=by intro hHold;(repeat (first|(with_reducible first|refine PW.seq ?_|refine PW.block ?_|refine PW.skip ?_|refine PW.exit ?_|refine PW.ret ?_|refine Xwv ?_|refine X9c ?_|refine Xc3 ?_|refine Xt4 ?_|refine X2o ?_|refine X9p ?_|refine X9m ?_|refine Xde ?_|refine X9i ?_|refine Xd7 ?_)|(refine ops0 ?_)|(first|((with_reducible refine PW.idd ?_);(first|refine PW.region X6 K_ ?_|refine PW.draw X6 K_ K_ K_ ?_|refine PW.condT rfl ?_|refine PW.condF rfl ?_|refine PW.condTe rfl (by assumption) ?_|refine PW.condFe rfl (by assumption) ?_|refine X1o D_ ?_))|with_reducible refine X1o D_ ?_)));exact hHold.out):p:=h ⟨k⟩
theorem wg {p q:Prop} (k:q) (h:Hold q→p:=by intro hHold;(repeat (refine ops0 ?_));(repeat (first|(with_reducible first|refine PW.seq ?_|refine PW.block ?_|refine PW.skip ?_|refine PW.exit ?_|refine PW.ret ?_|refine Xwv ?_|refine X9c ?_|refine Xc3 ?_|refine Xt4 ?_|refine X2o ?_|refine X9p ?_|refine X9m ?_|refine Xde ?_|refine X9i ?_|refine Xd7 ?_)|(first|((with_reducible refine PW.idd ?_);(first|refine PW.condT rfl ?_|refine PW.condF rfl ?_|refine PW.condTe rfl (by assumption) ?_|refine PW.condFe rfl (by assumption) ?_|refine X1o D_ ?_))|with_reducible refine X1o D_ ?_)));exact hHold.out):p:=h ⟨k⟩
theorem sb {p:Prop} (h:p:=by (refine Sub.same ?_;(repeat (first|exact SubR.bot|((with_reducible refine SubR.isp ?_);refine SubR.put ?_ (by exact rq0))|((with_reducible refine SubR.isb ?_);refine SubR.setb ?_ rfl rfl (by exact rl0))|((with_reducible refine SubR.ism ?_);refine SubR.setm ?_ rfl rfl (by (first|exact ⟨rfl,rfl,rfl,rfl,rfl⟩|exact RenM.low (by first|assumption|exact hlowm _|exact hlowm _ _)))))))):p:=h
theorem lw {p:Prop} (h:p:=by (first|exact Xz1|exact Xnj|exact Xfm|assumption|exact hlow _|exact hlow _ _|exact Low.agg _ (Kx (fun _=>Low.val _) _)|(simp [Xfu,Xgk,X4d,X3p,Xf3,Xre,Xc5,Km,Xuu,Xo,Y0,Xy,Xx,Xb,Xd2,Xw,hlow];done)|(simp [Xfu,Xgk,X4d,X3p,Xf3,Xre,Xc5,Km,Xuu,Xo,Y0,Xy,Xx,Xb,Xd2,Xw];done)|simp [Xfu,Xgk,X4d,X3p,Xf3,Xre,Xc5,Km,Xuu,Xo,Y0,Xy,Xx,Xb,Xd2,Xw,Xe0,Xil,Xbb,Xe4])):p:=h
theorem aw0 {p:Prop} (h:p:=by (repeat (refine ⟨⟨_,rfl,X7.refl _⟩,?_⟩));exact trivial):p:=h
theorem am0 {p:Prop} (h:p:=by (repeat (refine ⟨⟨rfl,rfl⟩,?_⟩));exact trivial):p:=h
def Sec:={l:List Int // l.length=64∧∀x∈l,0≤x∧x < 256}
def Ye:Sec:=⟨List.replicate 64 0,D_⟩
instance:Inhabited Sec:=⟨Ye⟩
def secL (s:Sec):List PV:=s.1.map Xh
theorem Xl (s:Sec):(secL s).length=64:=by simp [secL,s.2.1]
theorem Zc (s:Sec):∀c∈secL s,Low c:=by
 intro c hc
 obtain ⟨z,-,rfl⟩:=List.mem_map.1 hc
 exact .val _
theorem Ko (s:Sec):(secL s).all PV.one=true:=X0g _
theorem Xt (s:Sec):(secL s).map PV.bare=secL s:=by
 simp only [secL,List.map_map];rfl
structure Zo where
 s:Sec
 bad:Bool
instance:Inhabited Zo:=⟨⟨Ye,false⟩⟩
def Yu (c:Zo):List PV:=secL c.s ++ [Y1 c.bad]
theorem Y3 (c:Zo):(Yu c).length=65:=by simp [Yu,Xl]
theorem Z0 (c:Zo):∀p∈Yu c,Low p:=by
 intro p hp
 rcases List.mem_append.1 hp with h|h
 ·exact Zc _ p h
 ·simp at h;subst h;exact .val _
theorem X65 (s:Zo):(Yu s).all PV.one=true:=by
 rw [Yu,List.all_append,Ko];rfl
theorem Y7 (s:Zo):(Yu s).map PV.bare=Yu s:=by
 rw [Yu,List.map_append,Xt];rfl
theorem V9 {α:Type} {f:α→List PV} (h:∀x,∀p∈f x,Low p) (l:List α):∀p∈l.flatMap f,Low p:=by
 intro p hp
 obtain ⟨x,-,hx⟩:=List.mem_flatMap.1 hp
 exact h x p hx
structure DM where
 cells:List Zo
 op:List (Nat×Int×List Sec)
 clock:Nat
 steps:Int
 after:Int
 dead:Bool
def Xdz (l:List Sec) (own:Option TypeId):PV:=.sl l.length 64 (l.flatMap secL) own
theorem Xir (l:List Sec) (own:Option TypeId):Low (Xdz l own):=.sl _ _ _ _ (V9 Zc l)
def dE (e:Nat×Int×List Sec):Nat×PV×PV:=(e.1,pint e.2.1,Xdz e.2.2 (some 116))
def dB (c m:Nat) (D:DM):List PV := [.msl c 0 D.cells.length 65, .mref m,pint D.steps,pint D.after,Y1 D.dead]
def dC (D:DM):List PV:=D.cells.flatMap Yu
def dM (D:DM):PMap:=.map (D.op.map dE) D.clock
def dG (d c m:Nat) (D:DM):List (Nat×List PV) := [(d,dB c m D),(c,dC D)]
def dMs (m:Nat) (D:DM):List (Nat×PMap) := [(m,dM D)]
theorem Xm (D:DM):∀p∈dC D,Low p:=V9 Z0 _
theorem Xze (s:Sec):∀p∈secL s,noI64 p=true:=by
 intro p hp
 obtain ⟨z,-,rfl⟩:=List.mem_map.1 hp
 rfl
theorem X8v (l:List Sec) (own:Option TypeId):X0s (Xdz l own):=Y2l (fun p hp=>by
 obtain ⟨x,-,hx⟩:=List.mem_flatMap.1 hp
 exact Xze x p hx)
theorem Xrl (D:DM):∀c∈dC D,X0s c:=by
 intro c hc
 obtain ⟨x,-,hx⟩:=List.mem_flatMap.1 hc
 rcases List.mem_append.1 hx with h|h
 ·obtain ⟨z,-,rfl⟩:=List.mem_map.1 h;exact X9n rfl
 ·simp at h;subst h;exact X9n rfl
theorem Xsu (D:DM):∀e∈D.op.map dE,X0s e.2.2:=by
 intro e he
 obtain ⟨x,-,rfl⟩:=List.mem_map.1 he
 exact X8v _ _
theorem Xi (D:DM):∀e∈D.op.map dE,Low e.2.1∧Low e.2.2:=by
 intro e he
 obtain ⟨x,-,rfl⟩:=List.mem_map.1 he
 exact ⟨.val _,Xir _ _⟩
def ids3 (d c m:Nat):List Nat := [d,c,m]
def Xrj (d c m i:Nat):Nat:=if i=1000001 then d else if i=1000002 then c else if i=1000003 then m else i
theorem Zi {S:Nat→Prop} {c m:Nat} (hc:S c) (hm:S m) (D:DM):∀p∈dB c m D,LowI S p:=by
 intro p hp
 simp only [dB,List.mem_cons,List.not_mem_nil,or_false] at hp
 rcases hp with rfl|rfl|rfl|rfl|rfl
 ·exact .msl _ _ _ _ hc
 ·exact .mref _ hm
 ·exact .val _
 ·exact .val _
 ·exact .val _
theorem Y7t {S:Nat→Prop} {d c m:Nat} (hc:S 1000002) (hm:S 1000003) (D:DM):RenL (Xrj d c m) S (dB 1000002 1000003 D) (dB c m D):=
 .cons (.msl 1000002 0 _ _ hc) (.cons (.mref 1000003 hm) (.cons (.low _ (.val _)) (.cons (.low _ (.val _)) (.cons (.low _ (.val _)) .nil))))
end
section
open Go.RowKit
variable {f:FuncId} {fn:Func} {c:Code}
def X6q (f:FuncId) (args:List PV) (D:DM) (r:PV) (D' : DM):Prop:=∀d c m,(ids3 d c m).Nodup→Xe Tryz.prog f (.ptr d 0 :: args) (dG d c m D) (dMs m D) r (dG d c m D') (dMs m D')
theorem Vo {args:List PV} {D D' : DM} {r:PV} (hf:Tryz.prog.funcs[f]? = some fn) (hb:fn.body=some c) (hcb:X28 Tryz.prog f=true) (hlow:∀p∈args,Low p) (hno:∀p∈args,p.ownB=false) (hn:args.length+1≤fn.ntmps) (hr:Low r)
  (h:PW Tryz.prog fn.ntmps c (RetH X9l fn.results.toList r (dG 1000001 1000002 1000003 D') (dMs 1000003 D')) (Za (.ptr 1000001 0 :: args) (dG 1000001 1000002 1000003 D) (dMs 1000003 D))):X6q f args D r D':=by
 have h1:Xe Tryz.prog f (.ptr 1000001 0 :: args) (dG 1000001 1000002 1000003 D) (dMs 1000003 D) r (dG 1000001 1000002 1000003 D') (dMs 1000003 D'):=by
  have r3:∀D,X0 (dG 1000001 1000002 1000003 D) (dMs 1000003 D) = [1000001,1000002,1000003]:=fun _=>rfl
  refine Xn X6 hf hb hcb (fun p hp=>?_) (by simpa using hn) (by rw [r3];decide) (by rw [r3];decide) ⟨fun p hp=>?_,fun x hx=>?_,fun x hx=>?_,hr.lowI,fun x hx=>?_,fun x hx=>?_,by simp [dG],by simp [dMs]⟩ h
  ·rcases List.mem_cons.1 hp with rfl|hp
   ·rfl
   ·exact hno p hp
  ·rcases List.mem_cons.1 hp with rfl|hp
   ·exact .ptr _ _ (by rw [r3];decide)
   ·exact (hlow p hp).lowI
  ·simp only [dG,List.mem_cons,List.not_mem_nil,or_false] at hx
   rcases hx with rfl|rfl
   ·exact Zi (by rw [r3];decide) (by rw [r3];decide) D
   ·exact fun p hp=>(Xm D p hp).lowI
  ·simp only [dMs,List.mem_cons,List.not_mem_nil,or_false] at hx
   subst hx
   exact fun e he=>⟨(Xi D e he).1.lowI,(Xi D e he).2.lowI⟩
  ·simp only [dG,List.mem_cons,List.not_mem_nil,or_false] at hx
   rcases hx with rfl|rfl
   ·exact Zi (by rw [r3];decide) (by rw [r3];decide) D'
   ·exact fun p hp=>(Xm D' p hp).lowI
  ·simp only [dMs,List.mem_cons,List.not_mem_nil,or_false] at hx
   subst hx
   exact fun e he=>⟨(Xi D' e he).1.lowI,(Xi D' e he).2.lowI⟩
 intro d c m hnd
 have r3:∀D,X0 (dG 1000001 1000002 1000003 D) (dMs 1000003 D) = [1000001,1000002,1000003]:=fun _=>rfl
 have hG:∀D,RenB (Xrj d c m) (fun i=>i ∈ [1000001,1000002,1000003]) (dG 1000001 1000002 1000003 D) (dG d c m D):=fun D=>
  .cons 1000001 _ _ _ _ (Y7t D_ D_ D) (.cons 1000002 _ _ _ _ (.low (Xm D)) .nil)
 have hM:∀D,Kc (Xrj d c m) (fun i=>i ∈ [1000001,1000002,1000003]) (dMs 1000003 D) (dMs m D):=fun D=>.cons 1000003 _ _ _ _ (.low (Xi D)) .nil
 refine h1.ren (Xrj d c m) (by simp [dG]) (by simp [dMs]) ?_ ?_ (hG D) (hM D) (.low _ hr) (hG D') (hM D')
 ·rw [r3]
  simp only [ids3,List.nodup_cons,List.mem_cons,List.not_mem_nil,or_false,not_or,List.nodup_nil,and_true,not_false_eq_true] at hnd
  obtain ⟨⟨n1,n2⟩,n3⟩:=hnd
  intro i hi j hj e
  simp only [List.mem_cons,List.not_mem_nil,or_false] at hi hj
  rcases hi with rfl|rfl|rfl<;>rcases hj with rfl|rfl|rfl<;>simp [Xrj] at e ⊢ <;> first|exact absurd e n1|exact absurd e n2|exact absurd e n3|exact absurd e.symm n1|exact absurd e.symm n2|exact absurd e.symm n3
 ·exact .cons (.ptr 1000001 0 (by rw [r3];decide)) (.low hlow)
end
section
open Go.RowKit
def DM.check (D:DM) (i:Int):Int:=if D.dead then 220 else if i < 0∨(D.cells.length:Int)≤i then 1 else 0
def DM.step (D:DM):Int×DM:=if D.after=0 then (220,{ D with dead:=true }) else (0,{ D with steps:=D.steps+1,after:=if 0 < D.after then D.after - 1 else D.after })
theorem X5j (D:DM):X6q 57 [] D (pint D.cells.length) D:=by
 refine Vo Tryz.func57 rfl rfl S_ S_ D_ (.val _) ?_
 refine wk ?_
 exact RetH.mk rfl (Weak.refl _) aw0 am0
def maxI (a b:Int):Int:=if b > a then b else a
theorem Xfp (D:DM) (i:Int):X6q 83 [pint i] D (pint (D.check i)) D:=by
 refine Vo Tryz.func83 rfl rfl (by exact lw) (by simp [pint,PV.ownB]) N_ (by exact lw) ?_
 obtain ⟨cells,op,clock,steps,after,dead⟩:=D
 cases dead
 ·by_cases h1:i < 0
  ·have hc:DM.check ⟨cells,op,clock,steps,after,false⟩ i=1:=by simp [DM.check,h1]
   rw [hc]
   refine wk ?_
   exact RetH.mk rfl (Weak.refl _) aw0 am0
  ·by_cases h2:(cells.length:Int)≤i
   ·have hc:DM.check ⟨cells,op,clock,steps,after,false⟩ i=1:=by simp [DM.check,h2]
    rw [hc]
    refine wk ?_
    exact RetH.mk rfl (Weak.refl _) aw0 am0
   ·have hc:DM.check ⟨cells,op,clock,steps,after,false⟩ i=0:=by simp [DM.check,h1,h2]
    rw [hc]
    refine wk ?_
    exact RetH.mk rfl (Weak.refl _) aw0 am0
 ·have hc:DM.check ⟨cells,op,clock,steps,after,true⟩ i=220:=by simp [DM.check]
  rw [hc]
  refine wk ?_
  exact RetH.mk rfl (Weak.refl _) aw0 am0
theorem Xum (D:DM) (h:0≤D.steps∧D.steps≤1000000000 ∧ -1≤D.after) (h2:D.after≤9223372036854775807):X6q 119 [] D (pint D.step.1) D.step.2:=by
 refine Vo Tryz.func119 rfl rfl S_ S_ D_ (by exact lw) ?_
 obtain ⟨cells,op,clock,steps,after,dead⟩:=D
 simp only at h h2
 by_cases h1:after=0
 ·have hc:DM.step ⟨cells,op,clock,steps,after,dead⟩=(220,⟨cells,op,clock,steps,after,true⟩):=by simp [DM.step,h1]
  rw [hc]
  refine wk ?_
  exact RetH.mk rfl (Weak.refl _) aw0 am0
 ·by_cases h3:0 < after
  ·have hc:DM.step ⟨cells,op,clock,steps,after,dead⟩=(0,⟨cells,op,clock,steps+1,after - 1,dead⟩):=by simp [DM.step,h1,h3]
   rw [hc]
   refine wk ?_
   exact RetH.mk rfl (Weak.refl _) aw0 am0
  ·have hc:DM.step ⟨cells,op,clock,steps,after,dead⟩=(0,⟨cells,op,clock,steps+1,after,dead⟩):=by simp [DM.step,h1,h3]
   rw [hc]
   refine wk ?_
   exact RetH.mk rfl (Weak.refl _) aw0 am0
def psec (s:Sec):PV:=.agg (secL s)
theorem X85 (s:Sec):Low (psec s):=.agg _ (Zc s)
def Zz (i:Int):List (Nat×Int×List Sec)→Nat→Option Nat
 | [],_=>none
 |(_,k,_) :: l,n=>if i=k then some n else Zz i l (n+1)
theorem X24 (i:Int):∀(l:List (Nat×Int×List Sec)) (n:Nat),X0h .int (.int .i64 i) (l.map dE) n=some (Zz i l n)
 | [],n=>rfl
 |(s,k,v) :: l,n=>by
  simp only [List.map_cons,dE,pint,X0h,veq,if_true,Zz]
  by_cases h:i=k
  ·subst h;simp
  ·have:(i == k)=false:=by simpa using h
   rw [this,if_neg h]
   exact X24 i l (n+1)
theorem X1f {i:Int} : ∀{l:List (Nat×Int×List Sec)} {n j:Nat},Zz i l n=some j→n≤j∧j < n+l.length∧∃s v,l[j - n]? = some (s,i,v)
 | [],n,j,h=>by simp [Zz] at h
 |(s,k,v) :: l,n,j,h=>by
  simp only [Zz] at h
  split at h
  ·rename_i e;subst e;cases h;exact ⟨Nat.le_refl _,S_,s,v,S_⟩
  ·obtain ⟨h1,h2,s',v',h3⟩:=X1f h
   refine ⟨O_,by simp;omega,s',v',?_⟩
   rw [show j - n=(j - (n+1))+1 by omega];simpa using h3
instance:Inhabited (Nat×Int×List Sec):=⟨(0,0,[])⟩
def DM.get (D:DM) (i:Int):List Sec:=match Zz i D.op 0 with
 |some j=>(D.op.getD j default).2.2
 |none => []
def V6 (l:List Sec):Sec:=l.getD ((l.length:Int) - 1).toNat default
def DM.cell (D:DM) (i:Int):Zo:=D.cells.getD i.toNat default
def DM.read (D:DM) (i:Int):Sec×Int:=if D.check i=0 then (if 0 < (D.get i).length then (V6 (D.get i),0) else if (D.cell i).bad then (Ye,221) else ((D.cell i).s,0)) else (Ye,D.check i)
theorem dget (D:DM) (i:Int) {ki ei:TyI} (hk:ki.kind = .int .i64) (he:Xja ei=some .nilsl):∃b,mget ki ei (D.op.map dE) (.int .i64 i)=some (if Zz i D.op 0=none then .nilsl else Xdz (D.get i) none,b):=by
 unfold mget
 simp only [hk,X6j,skT,decide_true,if_true,X24]
 cases h:Zz i D.op 0 with
 |none=>exact ⟨false,by simp [he,PV.bare]⟩
 |some j=>
  obtain ⟨-,h2,s,v,h3⟩:=X1f h
  simp only [Nat.sub_zero] at h3
  refine ⟨true,?_⟩
  simp only [M_,h3,Option.map_some,dE,reduceCtorEq,if_false,DM.get,h,G_,Option.getD_some]
  rfl
theorem check0 {D:DM} {i:Int} (h:D.check i=0):D.dead=false∧0≤i∧i < D.cells.length:=by
 unfold DM.check at h
 split at h
 ·cases h
 ·split at h
  ·cases h
  ·rename_i h1 h2
   exact ⟨by simpa using h1,O_,O_⟩
theorem Xv0 (c:Zo):(Yu c)[64]? = some (Y1 c.bad):=by
 rw [Yu,List.getElem?_append_right (by rw [Xl];exact Nat.le_refl _),Xl];rfl
theorem Y4i (D:DM):dC D=D.cells.flatMap Yu:=rfl
end
section
open Go.RowKit
variable {P:Program} {T:Tab} {σ:PS} {o:Oper} {i base:Nat} {ops:Array Oper} {ok:Nat→Nat→Bool} {rest:List (Nat×Oper)} {K:PS→Prop}
theorem X5.ldSec {d id:Nat} {z:Nat} {l:List Zo} {x:Operand} {t:TypeId} {kd:TD} {zr:List PV} {es:List SK} (hg:Xk ops σ o=some true) (hd:o.dst=some d) (hop:o.op = .load t x) {off:Nat} (hx:pev σ x = .ptr id off) (ht:T.at t=some ⟨64,true,kd,zr,es⟩) (hb:σ.freeB (base+i)=true) {bs:List PV} (hbs:(σ.only (ok i)).b id=some bs) (hf:bs=l.flatMap Yu) (ho:off=0+z * 65+0) (hl:z < l.length)
  (kn:X5 P T ops base ok rest K (σ.put d (psec (l.getD z default).s))):X5 P T ops base ok ((i,o) :: rest) K σ:=by
 subst ho
 subst hf
 refine X5.ldBA hg hd hop hx ht hb hbs ?_ ?_ kn
 ·rw [Kk Y3]
  have:=Nat.mul_le_mul_right 65 (show z+1≤l.length from hl)
  omega
 ·have h1:=Vq Y3 (X0e default hl)
  have h2:((l.flatMap Yu).drop (0+z * 65+0)).take 64=(((l.flatMap Yu).drop (z * 65)).take 65).take 64:=by
   rw [List.take_take,show 0+z * 65+0=z * 65 by omega];rfl
  rw [h2,h1,Yu,List.take_append_of_le_length (by rw [Xl];exact Nat.le_refl _),H_ (by rw [Xl];exact Nat.le_refl _),Xt]
end
section
open Go.RowKit
theorem X9o (D:DM) (i:Int) (hsz:D.cells.length≤1000000000) (hop:∀e∈D.op,e.2.2.length≤1000000000):X6q 59 [pint i] D (.tup [psec (D.read i).1,pint (D.read i).2]) D:=by
 refine Vo Tryz.func59 rfl rfl (by exact lw) (by simp [pint,PV.ownB]) N_ (.tup _ (by intro c hc;simp at hc;rcases hc with rfl|rfl;exact X85 _;exact .val _)) ?_
 have hck:=Xfp D i 1000001 1000002 1000003 D_
 have hgl:(D.get i).length≤1000000000:=by
  unfold DM.get
  cases h:Zz i D.op 0 with
  |none=>simp
  |some j=>
   obtain ⟨-,h2,s,v,h3⟩:=X1f h
   simp only [Nat.sub_zero] at h3
   simp only [G_,h3,Option.getD_some]
   exact hop _ (List.mem_of_getElem? h3)
 by_cases h1:D.check i=0
 ·obtain ⟨hd,hi0,hi1⟩:=check0 h1
  obtain ⟨b,hb⟩:=dget D i (ki:=⟨1,false, .int .i64,[.val (.int .i64 0)],[]⟩) (ei:=⟨1,false, .slice 116 64 64 (List.replicate 64 (.val (.int .u8 0))),[.nilsl],[]⟩) rfl rfl
  cases hx:Zz i D.op 0 with
  |none=>
   have hg0:D.get i = []:=by simp [DM.get,hx]
   rw [hx] at hb
   simp only [if_true] at hb
   cases hbad:(D.cells.getD i.toNat default).bad with
   |true=>
    have hr:D.read i=(Ye,221):=by unfold DM.read DM.cell;rw [if_pos h1,hg0,hbad];rfl
    rw [hr]
    refine wk ?_
    exact RetH.mk (X67 (Yq rfl rfl rfl (by (first|rfl|exact Xl _|exact Y3 _|exact Yi _|exact Yd (by assumption)|exact Yd rfl)) (by (first|rfl|exact Xt _|exact Y7 _|exact K2 _|exact Yx (fun _=>rfl) _))) rfl) (Weak.eq rfl) aw0 am0
   |false=>
    have hr:D.read i=((D.cells.getD i.toNat default).s,0):=by unfold DM.read DM.cell;rw [if_pos h1,hg0,hbad];rfl
    rw [hr]
    refine wk ?_
    exact RetH.mk (X67 (Yq rfl rfl rfl (by (first|rfl|exact Xl _|exact Y3 _|exact Yi _|exact Yd (by assumption)|exact Yd rfl)) (by (first|rfl|exact Xt _|exact Y7 _|exact K2 _|exact Yx (fun _=>rfl) _))) rfl) (Weak.eq rfl) aw0 am0
  |some j=>
   rw [hx] at hb
   simp only [reduceCtorEq,if_false] at hb
   by_cases hl:0 < (D.get i).length
   ·have hr:D.read i=(V6 (D.get i),0):=by simp [DM.read,h1,hl]
    rw [hr]
    refine wk ?_
    exact RetH.mk (X67 (Yq rfl rfl rfl (by (first|rfl|exact Xl _|exact Y3 _|exact Yi _|exact Yd (by assumption)|exact Yd rfl)) (by (first|rfl|exact Xt _|exact Y7 _|exact K2 _|exact Yx (fun _=>rfl) _))) rfl) (Weak.eq rfl) aw0 am0
   ·have hl0:(D.get i).length=0:=O_
    cases hbad:(D.cells.getD i.toNat default).bad with
    |true=>
     have hr:D.read i=(Ye,221):=by unfold DM.read DM.cell;rw [if_pos h1,if_neg hl,hbad];rfl
     rw [hr]
     refine wk ?_
     exact RetH.mk (X67 (Yq rfl rfl rfl (by (first|rfl|exact Xl _|exact Y3 _|exact Yi _|exact Yd (by assumption)|exact Yd rfl)) (by (first|rfl|exact Xt _|exact Y7 _|exact K2 _|exact Yx (fun _=>rfl) _))) rfl) (Weak.eq rfl) aw0 am0
    |false=>
     have hr:D.read i=((D.cells.getD i.toNat default).s,0):=by unfold DM.read DM.cell;rw [if_pos h1,if_neg hl,hbad];rfl
     rw [hr]
     refine wk ?_
     exact RetH.mk (X67 (Yq rfl rfl rfl (by (first|rfl|exact Xl _|exact Y3 _|exact Yi _|exact Yd (by assumption)|exact Yd rfl)) (by (first|rfl|exact Xt _|exact Y7 _|exact K2 _|exact Yx (fun _=>rfl) _))) rfl) (Weak.eq rfl) aw0 am0
 ·have hr:D.read i=(Ye,D.check i):=by simp [DM.read,h1]
  rw [hr]
  refine wk ?_
  exact RetH.mk (X67 (Yq rfl rfl rfl (by (first|rfl|exact Xl _|exact Y3 _|exact Yi _|exact Yd (by assumption)|exact Yd rfl)) (by (first|rfl|exact Xt _|exact Y7 _|exact K2 _|exact Yx (fun _=>rfl) _))) rfl) (Weak.eq rfl) aw0 am0
def addW (D:DM) (i:Int) (s:Sec):DM:=match Zz i D.op 0 with
 |some j=>{ D with op:=D.op.set j ((D.op.getD j default).1,i,(D.op.getD j default).2.2 ++ [s]) }
 |none=>{ D with op:=D.op ++ [(D.clock,i,[s])],clock:=D.clock+1 }
def DM.write (D:DM) (i:Int) (s:Sec):Int×DM:=if D.check i=0 then (if D.step.1=0 then (0,addW D.step.2 i s) else D.step) else (D.check i,D)
theorem Xje {sk:SK} {kv:Value} : ∀{es:List (Nat×PV×PV)} {j n:Nat} {s s' : Nat} {kp c c' : PV},es[j]? = some (s,kp,c)→X0h sk kv (es.set j (s',kp,c')) n=X0h sk kv es n
 | [],j,n,s,s',kp,c,c',h=>by simp at h
 |(a,b,d) :: es,0,n,s,s',kp,c,c',h=>by
  simp at h
  obtain ⟨rfl,rfl,rfl⟩:=h
  simp only [List.set_cons_zero]
  cases b<;>rfl
 |(a,b,d) :: es,j+1,n,s,s',kp,c,c',h=>by
  simp at h
  have ih:=fun n=>Xje (sk:=sk) (kv:=kv) (n:=n) (s':=s') (c':=c') h
  simp only [List.set_cons_succ]
  cases b<;>simp only [X0h,ih]
theorem Xrc {D:DM} {i:Int} {s:Sec} {j:Nat} (hj:Zz i D.op 0=some j) {ki:TyI} (hk:ki.kind = .int .i64) (e:Nat×Int×List Sec) (he:D.op[j]? = some e) :
  mput ki ((D.op.map dE).set j (e.1,pint e.2.1, .sl e.2.2.length 64 (e.2.2.flatMap secL) none)) D.clock (.int .i64 i) (.sl (e.2.2.length+1) 64 (e.2.2.flatMap secL ++ secL s) (some 116))=some (dM (addW D i s)):=by
 obtain ⟨-,h2,s',v,h3⟩:=X1f hj
 simp only [Nat.sub_zero] at h3
 rw [he] at h3
 simp only [Option.some.injEq] at h3
 subst h3
 have hj' : (D.op.map dE)[j]? = some (s',pint i,Xdz v (some 116)):=by rw [M_,he];rfl
 have hl:j < (D.op.map dE).length:=(List.getElem?_eq_some_iff.1 hj').1
 unfold mput
 simp only [hk,X6j,skT,decide_true,if_true]
 rw [Xje hj',X24,hj]
 simp only [List.getElem?_set,if_true,hl,List.set_set]
 unfold dM addW
 rw [hj]
 simp only [G_,he,Option.getD_some,List.map_set,dE,Xdz,A_,C_,List.length_nil,List.flatMap_append,List.flatMap_cons,List.flatMap_nil,List.append_nil]
 rfl
theorem Xuo {D:DM} {i:Int} {s:Sec} (hj:Zz i D.op 0=none) {ki:TyI} (hk:ki.kind = .int .i64) :
  mput ki (D.op.map dE) D.clock (.int .i64 i) (.sl 1 64 (secL s) (some 116))=some (dM (addW D i s)):=by
 unfold mput
 simp only [hk,X6j,skT,decide_true,if_true]
 rw [X24,hj]
 unfold dM addW
 rw [hj]
 simp only [List.map_append,List.map_cons,List.map_nil,dE,Xdz,C_,List.length_nil,List.flatMap_cons,List.flatMap_nil,List.append_nil]
 rfl
theorem Xb5 (D:DM) (i:Int) (s:Sec) (h:0≤D.steps∧D.steps≤1000000000 ∧ -1≤D.after) (h2:D.after≤9223372036854775807) (hop:∀e∈D.op,e.2.2.length≤1000000000):X6q 103 [pint i,psec s] D (pint (D.write i s).1) (D.write i s).2:=by
 refine Vo Tryz.func103 rfl rfl (by intro p hp;simp at hp;rcases hp with rfl|rfl;exact .val _;exact X85 _) (by simp [pint,psec,PV.ownB]) N_ (.val _) ?_
 have hck:=Xfp D i 1000001 1000002 1000003 D_
 have hst:=Xum D h h2 1000001 1000002 1000003 D_
 by_cases h1:D.check i=0
 ·obtain ⟨hd,hi0,hi1⟩:=check0 h1
  by_cases h3:D.step.1=0
  ·have hr:D.write i s=(0,addW D.step.2 i s):=by unfold DM.write;rw [if_pos h1,if_pos h3]
   rw [hr]
   have hsop:D.step.2.op=D.op:=by unfold DM.step;split<;>rfl
   refine wk ?_
   cases hx:Zz i D.step.2.op 0 with
   |some j=>
    obtain ⟨-,h4,s',v,h5⟩:=X1f hx
    simp only [Nat.sub_zero] at h5
    have hvl:v.length≤1000000000:=hop (s',i,v) (by rw [hsop] at h5;exact List.mem_of_getElem? h5)
    have hf:X0h .int (.int .i64 i) (D.step.2.op.map dE) 0=some (some j):=by rw [X24,hx]
    have hj:(D.step.2.op.map dE)[j]? = some (s',pint i, .sl v.length 64 (v.flatMap secL) (some 116)):=by rw [M_,h5];rfl
    refine X5.lkpO rfl rfl rfl rfl rfl rfl rfl rfl rfl rfl rfl rfl rfl hf hj ?_
    refine wk ?_
    refine X5.mputO rfl rfl rfl rfl rfl rfl rfl rfl rfl rfl rfl (Xrc hx rfl (s',i,v) h5) ?_
    refine wk ?_
    exact RetH.mk rfl (Weak.eq (by show pint D.step.1=_;rw [h3])) ⟨⟨_,rfl,X7.eq (by simp [dB,addW,hx])⟩,⟨_,rfl,X7.eq (by simp [dC,addW,hx])⟩,trivial⟩ ⟨⟨rfl,rfl⟩,trivial⟩
   |none=>
    obtain ⟨b,hb⟩:=dget D.step.2 i (ki:=⟨1,false, .int .i64,[.val (.int .i64 0)],[]⟩) (ei:=⟨1,false, .slice 116 64 64 (List.replicate 64 (.val (.int .u8 0))),[.nilsl],[]⟩) rfl rfl
    rw [hx] at hb
    simp only [if_true] at hb
    refine wk ?_
    refine X5.mputO rfl rfl rfl rfl rfl rfl rfl rfl rfl rfl rfl (Xuo hx rfl) ?_
    refine wk ?_
    exact RetH.mk rfl (Weak.eq (by show pint D.step.1=_;rw [h3])) ⟨⟨_,rfl,X7.eq (by simp [dB,addW,hx])⟩,⟨_,rfl,X7.eq (by simp [dC,addW,hx])⟩,trivial⟩ ⟨⟨rfl,rfl⟩,trivial⟩
  ·have hr:D.write i s=D.step:=by unfold DM.write;rw [if_pos h1,if_neg h3]
   rw [hr]
   refine wk ?_
   exact RetH.mk rfl (Weak.refl _) aw0 am0
 ·have hr:D.write i s=(D.check i,D):=by unfold DM.write;rw [if_neg h1]
  rw [hr]
  refine wk ?_
  exact RetH.mk rfl (Weak.refl _) aw0 am0
theorem wrap_u8 (z:Int):0≤IntKind.u8.wrap z∧IntKind.u8.wrap z < 256:=by
 have h:IntKind.u8.wrap z=z % 256:=rfl
 rw [h];omega
end
section
open Go.RowKit
variable {P:Program} {T:Tab} {σ:PS} {o:Oper} {i base:Nat} {ops:Array Oper} {ok:Nat→Nat→Bool} {rest:List (Nat×Oper)} {K:PS→Prop}
theorem X5.bldA {d f off n:Nat} {cs out:List PV} {x:Operand} {t:TypeId} {ti:TyI} {l:List (Nat×Nat×Bool)} (hg:Xk ops σ o=some true) (hd:o.dst=some d) (hop:o.op = .build t #[(f,x)]) (hx:pev σ x = .agg cs) (ht:T.at t=some ti) (hk:ti.kind = .struct l) (hf:(l[f]?).map (fun x=>(x.1,x.2.1))=some (off,n)) (hb:σ.freeB (base+i)=true) (hl:cs.length=n) (hz:Nat.ble (off+n) ti.zero.length=true) (ho:cs.all PV.one=true) (hr:cs.map PV.bare=cs) (hout:Y5 ti.zero off cs=out)
  (kn:X5 P T ops base ok rest K (σ.put d (.agg out))):X5 P T ops base ok ((i,o) :: rest) K σ:=by
 refine X5.valEq hg hd (p:=.agg out) ?_ rfl hb kn
 have hz':=Nat.le_of_ble_eq_true hz
 have hs:=Zh ti.zero off cs O_
 rw [hout] at hs
 simp only [hop,presE,V5,pval,ht,Xjj,hk,List.map_cons,List.map_nil,Xv,hx,X11,hf,X01,ho,if_true,hr,hl,hz',and_self,hs,Option.map_some]
theorem X5.rng {d mid clock kt et:Nat} {x:Operand} {t:TypeId} {es:List (Nat×PV×PV)} {ti:TyI} (hg:Xk ops σ o=some true) (hd:o.dst=some d) (hop:o.op = .range t x) (hx:pev σ x = .mref mid) (hm:(σ.only (ok i)).m mid=some (.map es clock)) (ht:T.at t=some ti) (hk:ti.kind = .map kt et) (hb:σ.freeB (base+i)=true)
  (kn:X5 P T ops base ok rest K ((σ.setm (base+i) (.iter mid clock [] clock)).put d (.ptr (base+i) 0))):X5 P T ops base ok ((i,o) :: rest) K σ:=by
 refine X5.stepM hg (E:=⟨.ptr (base+i) 0,[],none,[(base+i, .iter mid clock [] clock)]⟩) ?_ hb (by rw [hd];exact kn)
 have h1:(σ.only (ok i)).b (base+i)=none∧(σ.only (ok i)).m (base+i)=none:=by
  obtain ⟨q1,q2⟩:=PS.freeB_spec hb
  simp only [PS.only,q1,q2]
  constructor<;>split<;>rfl
 simp only [hop,Zf,ht,Xv,hx,X7f,hm,h1.1,h1.2,hk]
theorem X5.ent {d it mid since last s clock:Nat} {x:Operand} {seen:List Nat} {es:List (Nat×PV×PV)} {e:Nat×PV×PV} (hg:Xk ops σ o=some true) (hd:o.dst=some d) (hop:o.op = .entry x) (hx:pev σ x = .ptr it 0) (hi:(σ.only (ok i)).m it=some (.iter mid since (seen ++ [s]) last)) (hm:(σ.only (ok i)).m mid=some (.map es clock)) (hcl:clock=last) (hf:es.find? (fun e=>e.1 == s)=some e) (hb:σ.freeB (base+i)=true)
  (kn:X5 P T ops base ok rest K (σ.put d (.tup [e.2.1.bare,e.2.2.bare]))):X5 P T ops base ok ((i,o) :: rest) K σ:=by
 refine X5.valEq hg hd (p:=.tup [e.2.1.bare,e.2.2.bare]) ?_ rfl hb kn
 simp only [hop,presE,V5,pval,X2k,X4n,Xv,hx,hi,hm,hcl,if_true,List.getLast?_concat,hf,Option.map_some]
theorem X8q:∀{es:List (Nat×PV×PV)} {e:Nat×PV×PV},(es.map (·.1)).Nodup→e∈es→es.find? (fun x=>x.1 == e.1)=some e
 | [],e,hn,h=>by simp at h
 |x :: es,e,hn,h=>by
  simp only [List.map_cons,List.nodup_cons] at hn
  rcases List.mem_cons.1 h with rfl|h
  ·simp
  ·have hne:(x.1 == e.1)=false:=by
    rw [beq_eq_false_iff_ne]
    intro e1
    exact hn.1 (by rw [e1];exact List.mem_map_of_mem h)
   rw [List.find?_cons,hne]
   exact X8q hn.2 h
end
section
open Go.RowKit
def Vg (i:Int):List (Nat×Int×List Sec)→Option (List Sec)
 | []=>none
 |(_,k,l) :: r=>if i=k then some l else Vg i r
def synced (cells:List Zo) (op:List (Nat×Int×List Sec)):List Zo:=(List.range cells.length).map fun j=>match Vg (j:Nat) op with
 |some l=>⟨V6 l,false⟩
 |none=>cells.getD j default
def DM.synced (D:DM):DM:={ D with cells:=Go.Proofs.YtmciloafahkolaaGreatDoor.synced D.cells D.op,op := [] }
def DM.sync (D:DM):Int×DM:=if D.check 0=0 then (if D.step.1=0 then (0,D.step.2.synced) else D.step) else (D.check 0,D)
def opOK (n:Nat) (op:List (Nat×Int×List Sec)):Prop:=(op.map (·.2.1)).Nodup∧∀e∈op,0≤e.2.1∧e.2.1 < n∧0 < e.2.2.length∧e.2.2.length≤1000000000
theorem Xcn {i:Int} : ∀{op:List (Nat×Int×List Sec)} {n j:Nat} {s:Nat} {l:List Sec},(op.map (·.2.1)).Nodup→op[j]? = some (s,i,l)→Zz i op n=some (n+j)
 | [],n,j,s,l,hn,h=>by simp at h
 |(a,k,b) :: op,n,0,s,l,hn,h=>by
  simp at h
  obtain ⟨rfl,rfl,rfl⟩:=h
  simp [Zz]
 |(a,k,b) :: op,n,j+1,s,l,hn,h=>by
  simp only [List.map_cons,List.nodup_cons] at hn
  simp only [List.getElem?_cons_succ] at h
  have hne:i≠k:=by
   rintro rfl
   exact hn.1 (List.mem_map.2 ⟨_,List.mem_of_getElem? h,rfl⟩)
  simp only [Zz,if_neg hne]
  rw [Xcn hn.2 h]
  congr 1;omega
theorem Xcc {α β:Type} (f:α→β):∀(l:List α) (j:Nat),(l.map f).eraseIdx j=(l.eraseIdx j).map f
 | [],j=>by simp
 |a :: l,0=>by simp
 |a :: l,j+1=>by simp [Xcc f l j]
theorem X21 (s:Sec) (b:Bool):Y5 (List.replicate 64 (.val (.int .u8 0)) ++ [Y1 b]) 0 (secL s)=Yu ⟨s,b⟩:=by
 unfold Y5
 rw [List.take_zero,List.nil_append,Nat.zero_add,Xl]
 rfl
theorem X57 (c:Zo):X01 (.agg (Yu c))=some (Yu c):=by simp only [X01,X65,if_true,Y7]
theorem X2b {i:Int} : ∀{op:List (Nat×Int×List Sec)},i∉op.map (·.2.1)→Vg i op=none
 | [],h=>rfl
 |(a,k,b) :: op,h=>by
  simp only [List.map_cons,List.mem_cons,not_or] at h
  simp only [Vg,if_neg h.1]
  exact X2b h.2
theorem X9y {i k:Int} : ∀{op:List (Nat×Int×List Sec)} {j s:Nat} {l:List Sec},(op.map (·.2.1)).Nodup→op[j]? = some (s,k,l)→Vg i (op.eraseIdx j)=if i=k then none else Vg i op
 | [],j,s,l,hn,h=>by simp at h
 |(a,c,b) :: op,0,s,l,hn,h=>by
  simp at h
  obtain ⟨rfl,rfl,rfl⟩:=h
  simp only [List.map_cons,List.nodup_cons] at hn
  simp only [List.eraseIdx_cons_zero,Vg]
  split
  ·rename_i e;subst e;exact X2b hn.1
  ·rfl
 |(a,c,b) :: op,j+1,s,l,hn,h=>by
  simp only [List.map_cons,List.nodup_cons] at hn
  simp only [List.getElem?_cons_succ] at h
  have hne:k≠c:=by
   rintro rfl
   exact hn.1 (List.mem_map.2 ⟨_,List.mem_of_getElem? h,rfl⟩)
  simp only [List.eraseIdx_cons_succ,Vg,X9y hn.2 h]
  by_cases e:i=c
  ·subst e;rw [if_pos rfl,if_pos rfl,if_neg (fun e=>hne e.symm)]
  ·rw [if_neg e,if_neg e]
theorem X7n {k:Int} : ∀{op:List (Nat×Int×List Sec)} {j s:Nat} {l:List Sec},(op.map (·.2.1)).Nodup→op[j]? = some (s,k,l)→Vg k op=some l
 | [],j,s,l,hn,h=>by simp at h
 |(a,c,b) :: op,0,s,l,hn,h=>by
  simp at h
  obtain ⟨rfl,rfl,rfl⟩:=h
  simp [Vg]
 |(a,c,b) :: op,j+1,s,l,hn,h=>by
  simp only [List.map_cons,List.nodup_cons] at hn
  simp only [List.getElem?_cons_succ] at h
  have hne:k≠c:=by
   rintro rfl
   exact hn.1 (List.mem_map.2 ⟨_,List.mem_of_getElem? h,rfl⟩)
  simp only [Vg,if_neg hne]
  exact X7n hn.2 h
theorem Xkh {cells:List Zo} {op:List (Nat×Int×List Sec)} {j s:Nat} {k:Int} {l:List Sec} (hn:(op.map (·.2.1)).Nodup) (h:op[j]? = some (s,k,l)) (h0:0≤k) (h1:k < cells.length):synced (cells.set k.toNat ⟨V6 l,false⟩) (op.eraseIdx j)=synced cells op:=by
 unfold synced
 rw [List.length_set]
 refine List.map_congr_left fun q hq=>?_
 rw [X9y hn h]
 by_cases e:(q:Int)=k
 ·subst e
  rw [if_pos rfl,X7n hn h]
  have:q < cells.length:=O_
  simp [this]
 ·rw [if_neg e]
  have:k.toNat≠q:=O_
  simp [List.getElem?_set_ne this]
theorem Xon (cells:List Zo):synced cells []=cells:=by
 unfold synced
 apply List.ext_getElem?
 intro q
 simp only [Vg,M_]
 by_cases h:q < cells.length
 ·simp [h]
 ·simp [h]
theorem Xpc {n:Nat} {op:List (Nat×Int×List Sec)} (h:opOK n op) (j:Nat):opOK n (op.eraseIdx j):=
 ⟨h.1.sublist ((List.eraseIdx_sublist ..).map _),fun e he=>h.2 e (List.mem_of_mem_eraseIdx he)⟩
theorem Xdq {op:List Nat} {j x:Nat} (hn:op.Nodup) (h:op[j]? = some x):x∉op.eraseIdx j:=by
 induction op generalizing j with
 |nil=>simp at h
 |cons a op ih=>
  cases j with
  |zero=>simp at h;subst h;simpa using (List.nodup_cons.1 hn).1
  |succ j=>
   simp only [List.getElem?_cons_succ] at h
   simp only [List.eraseIdx_cons_succ,List.mem_cons,not_or]
   refine ⟨?_,ih (List.nodup_cons.1 hn).2 h⟩
   rintro rfl
   exact (List.nodup_cons.1 hn).1 (List.mem_of_getElem? h)
theorem Xfz (D:DM) (h:0≤D.steps∧D.steps≤1000000000 ∧ -1≤D.after) (h2:D.after≤9223372036854775807) (hsz:D.cells.length≤1000000000) (hop:opOK D.cells.length D.op):X6q 104 [] D (pint D.sync.1) D.sync.2:=by
 refine Vo Tryz.func104 rfl rfl S_ S_ N_ (.val _) ?_
 have hck:=Xfp D 0 1000001 1000002 1000003 D_
 have hst:=Xum D h h2 1000001 1000002 1000003 D_
 by_cases h1:D.check 0=0
 ·obtain ⟨hd,hi0,hi1⟩:=check0 h1
  by_cases h3:D.step.1=0
  ·have hr:D.sync=(0,D.step.2.synced):=by unfold DM.sync;rw [if_pos h1,if_pos h3]
   rw [hr]
   have hsop:D.step.2.op=D.op:=by unfold DM.step;split<;>rfl
   have hscl:D.step.2.cells=D.cells:=by unfold DM.step;split<;>rfl
   generalize hD1:D.step.2=D1 at hst hsop hscl ⊢
   rw [←hsop,←hscl] at hop
   rw [←hscl] at hi1 hsz
   refine wk ?_
   refine X5.rng rfl rfl rfl rfl rfl rfl rfl rfl ?_
   refine wk ?_
   refine PW.stamps (id:=1000003) rfl (fun hs=>?_)
   refine PW.loop (fun p:DM×List Nat=>((((((bot.setb 1000001 (dB 1000002 1000003 p.1)).setb 1000002 (dC p.1)).setm 1000003 (dM p.1)).setm 6004 (.iter 1000003 D1.clock p.2 D1.clock)).put 0 (.ptr 1000001 0)).put 2 (pint 0)).put 19 (.ptr 6004 0))
    (fun p=>p.1.cells.length=D1.cells.length∧p.1.clock=D1.clock∧p.1.synced=D1.synced∧opOK D1.cells.length p.1.op∧(∀e∈p.1.op,e.1∉p.2)∧(p.1.op.map (·.1)).Nodup∧∀e∈p.1.op,e.1 < D1.clock) (fun p=>p.1.op.length) (D1,[]) ?_ ?_ ?_
   ·refine ⟨rfl,rfl,rfl,hop,S_,?_,fun e he=>?_⟩
    ·have:=hs.1
     rw [List.map_map] at this;exact this
    ·exact hs.2 _ (List.mem_map_of_mem he)
   ·have hl:=Xm D1
    have hlm:=Xi D1
    exact sb
   ·rintro ⟨⟨cells,op,clock,steps,after,dead⟩,seen⟩ ⟨i1,i2,i3,i4,i5,i6,i7⟩
    dsimp only at i1 i2 i3 i4 i5 i6 i7
    subst i2
    refine PW.seq ?_
    refine Y0w X6 (it:=6004) (mid:=1000003) (es:=op.map dE) (clock:=D1.clock) rfl rfl rfl D_ rfl ?_ ?_ ?_
    ·cases hsn:op with
     |nil=>exact .inr (.inl rfl)
     |cons e r=>
      refine .inr (.inr ⟨dE e,S_,?_⟩)
      exact i7 e (by rw [hsn];simp)
    ·intro hno
     have hn0:op = []:=by
      cases hsn:op with
      |nil=>rfl
      |cons e r=>
       exfalso
       have hm:e∈op:=by rw [hsn];simp
       exact i5 e hm (hno (dE e) (List.mem_map_of_mem hm) (i7 e hm))
     refine wk ?_
     have hD:D1.synced=⟨cells,[],D1.clock,steps,after,dead⟩:=by
      rw [←i3,hn0]
      unfold DM.synced
      simp only [Xon]
     rw [hD]
     exact RetH.mk rfl (Weak.refl _) aw0 ⟨⟨rfl,by subst hn0;rfl⟩,trivial⟩
    ·intro e' he' hns
     obtain ⟨e,he,rfl⟩:=List.mem_map.1 he'
     obtain ⟨j,hj⟩:=List.getElem?_of_mem he
     obtain ⟨q1,q2,q3,q4⟩:=i4.2 e he
     have hfs:=X8q (es:=op.map dE) (e:=dE e) (by rw [List.map_map];exact i6) he'
     have hix:Zz e.2.1 op 0=some j:=by rw [Xcn i4.1 hj,Nat.zero_add]
     have hll:(e.2.2:List Sec).length≤1000000000:=q4
     refine wk ?_
     refine X5.ent (seen:=seen) (s:=e.1) rfl rfl rfl rfl rfl rfl rfl hfs rfl ?_
     refine wk ?_
     refine X5.bldA (cs:=secL (V6 e.2.2)) (out:=Yu ⟨V6 e.2.2,false⟩) rfl rfl rfl rfl rfl rfl rfl rfl (Xl _) rfl (Ko _) (Xt _) (X21 _ _) ?_
     refine wk ?_
     refine X5.stBR (v:=⟨V6 e.2.2,false⟩) rfl rfl rfl rfl rfl (by exact X57 ⟨V6 e.2.2,false⟩) rfl rfl rfl Y3 (by (first|omega|(dsimp only;omega))) rfl ?_
     refine wk ?_
     have hdel:mdel ⟨1,false, .int .i64,[.val (.int .i64 0)],[]⟩ (op.map dE) D1.clock (.int .i64 e.2.1)=some (.map ((op.eraseIdx j).map dE) D1.clock):=by
      unfold mdel
      simp only [X6j,skT,decide_true,if_true]
      rw [X24,hix]
      simp only [Xcc]
     refine X5.mdel rfl rfl rfl rfl rfl rfl rfl rfl rfl rfl hdel ?_
     refine wk ?_
     refine Y4 (⟨cells.set e.2.1.toNat ⟨V6 e.2.2,false⟩,op.eraseIdx j,D1.clock,steps,after,dead⟩,seen ++ [e.1]) ⟨?_,rfl,?_,Xpc i4 j,?_,?_,?_⟩ ?_ ?_
     ·show (cells.set _ _).length=_
      rw [List.length_set];exact i1
     ·rw [←i3]
      unfold DM.synced
      simp only [Xkh i4.1 hj q1 (by rw [i1];exact q2)]
     ·intro x hx
      have hx':=List.mem_of_mem_eraseIdx hx
      rw [List.mem_append,List.mem_singleton,not_or]
      refine ⟨i5 x hx',fun e1=>?_⟩
      have h5:(op.map (·.1))[j]? = some e.1:=by rw [M_,hj];rfl
      have h6:=Xdq i6 h5
      rw [Xcc] at h6
      exact h6 (by rw [←e1];exact List.mem_map_of_mem hx)
     ·show ((op.eraseIdx j).map _).Nodup
      exact i6.sublist ((List.eraseIdx_sublist ..).map _)
     ·exact fun x hx=>i7 x (List.mem_of_mem_eraseIdx hx)
     ·show (op.eraseIdx j).length < op.length
      have:=(List.getElem?_eq_some_iff.1 hj).1
      rw [List.length_eraseIdx]
      split<;>omega
     ·have hdB:dB 1000002 1000003 ⟨cells.set e.2.1.toNat ⟨V6 e.2.2,false⟩,op.eraseIdx j,D1.clock,steps,after,dead⟩=dB 1000002 1000003 ⟨cells,op,D1.clock,steps,after,dead⟩:=by simp [dB]
      have hl:=Xm ⟨cells.set e.2.1.toNat ⟨V6 e.2.2,false⟩,op.eraseIdx j,D1.clock,steps,after,dead⟩
      have hlm:=Xi ⟨cells.set e.2.1.toNat ⟨V6 e.2.2,false⟩,op.eraseIdx j,D1.clock,steps,after,dead⟩
      dsimp only
      rw [hdB]
      exact sb
  ·have hr:D.sync=D.step:=by unfold DM.sync;rw [if_pos h1,if_neg h3]
   rw [hr]
   refine wk ?_
   exact RetH.mk rfl (Weak.refl _) aw0 am0
 ·have hr:D.sync=(D.check 0,D):=by unfold DM.sync;rw [if_neg h1]
  rw [hr]
  refine wk ?_
  exact RetH.mk rfl (Weak.refl _) aw0 am0
end
section
open Go.RowKit
variable {P:Program} {T:Tab} {σ:PS} {o:Oper} {i base:Nat} {ops:Array Oper} {ok:Nat→Nat→Bool} {rest:List (Nat×Oper)} {K:PS→Prop}
theorem X5.mkS {d e k by_:Nat} {x:Int} {kx ky:IntKind} {out zr:List PV} {X Y:Operand} {t:TypeId} {ti:TyI} (hg:Xk ops σ o=some true) (hd:o.dst=some d) (hop:o.op = .makeSlice t X Y) (hx:pev σ X = .val (.int kx x)) (hy:pev σ Y = .val (.int ky x)) (ht:T.at t=some ti) (hk:ti.kind = .slice e k by_ zr) (hb:σ.freeB (base+i)=true) (hc:0≤x∧(by_:Int) * x≤281474976710656∧x≤9223372036854775807) (hout:(List.replicate x.toNat zr).flatten=out)
  (kn:X5 P T ops base ok rest K ((σ.setb (base+i) out).put d (.msl (base+i) 0 x.toNat k))):X5 P T ops base ok ((i,o) :: rest) K σ:=by
 refine X5.step hg (E:=⟨.msl (base+i) 0 x.toNat k,[(base+i,out)],none,[]⟩) ?_ hb (by rw [hd];exact kn)
 have h1:(σ.only (ok i)).b (base+i)=none∧(σ.only (ok i)).m (base+i)=none:=by
  obtain ⟨q1,q2⟩:=PS.freeB_spec hb
  simp only [PS.only,q1,q2]
  constructor<;>split<;>rfl
 have h2:0≤x∧x=x∧(by_:Int) * x≤281474976710656∧x≤9223372036854775807:=⟨hc.1,rfl,hc.2.1,hc.2.2⟩
 have h3:pmake k by_ zr x x=some (x.toNat,out):=by unfold pmake;rw [if_pos h2,hout]
 simp only [hop,presE,ht,Xv,hx,hy,h1.1,h1.2,hk,h3]
theorem X5.mkM {d:Nat} {t:TypeId} (hg:Xk ops σ o=some true) (hd:o.dst=some d) (hop:o.op = .makeMap t none) (hb:σ.freeB (base+i)=true)
  (kn:X5 P T ops base ok rest K ((σ.setm (base+i) (.map [] 0)).put d (.mref (base+i)))):X5 P T ops base ok ((i,o) :: rest) K σ:=by
 refine X5.stepM hg (E:=⟨.mref (base+i),[],none,[(base+i, .map [] 0)]⟩) ?_ hb (by rw [hd];exact kn)
 have h1:(σ.only (ok i)).b (base+i)=none∧(σ.only (ok i)).m (base+i)=none:=by
  obtain ⟨q1,q2⟩:=PS.freeB_spec hb
  simp only [PS.only,q1,q2]
  constructor<;>split<;>rfl
 simp only [hop,Zf,h1.1,h1.2]
end
section
open Go.RowKit
def newD (n:Nat):DM:=⟨List.replicate n ⟨Ye,false⟩,[],0,0,-1,false⟩
theorem Xp7 (n:Nat):(List.replicate n (List.replicate 64 (.val (.int .u8 0)) ++ [Y1 false])).flatten=dC (newD n):=by
 unfold dC newD
 have:(List.replicate 64 (.val (.int .u8 0)) ++ [Y1 false]:List PV)=Yu ⟨Ye,false⟩:=rfl
 rw [this]
 generalize (⟨Ye,false⟩:Zo)=z
 show _=(List.replicate n z).flatMap Yu
 induction n with
 |zero=>rfl
 |succ n ih=>rw [List.replicate_succ,List.replicate_succ,List.flatten_cons,List.flatMap_cons,ih]
theorem Y4h (n:Int) (h:1≤n∧n≤65536):Xe Tryz.prog 10 [pint n] [] [] (.ptr 3004 0) (dG 3004 3001 3002 (newD n.toNat)) (dMs 3002 (newD n.toNat)):=by
 refine Xn X6 Tryz.func10 rfl rfl (by simp [pint,PV.ownB]) N_ (by simp [X0]) (by simp [X0]) ⟨by intro p hp;simp at hp;subst hp;exact .val _,S_,S_, .ptr _ _ (by simp [X0,dG]),fun x hx=>?_,fun x hx=>?_,S_,S_⟩ ?_
 ·simp only [dG,List.mem_cons,List.not_mem_nil,or_false] at hx
  rcases hx with rfl|rfl
  ·exact Zi (by simp [X0,dG]) (by simp [X0,dMs]) _
  ·exact fun p hp=>(Xm _ p hp).lowI
 ·simp only [dMs,List.mem_cons,List.not_mem_nil,or_false] at hx
  subst hx
  exact fun e he=>⟨(Xi _ e he).1.lowI,(Xi _ e he).2.lowI⟩
 refine wk ?_
 refine X5.mkS (out:=dC (newD n.toNat)) rfl rfl rfl rfl rfl rfl rfl rfl ?_ (Xp7 _) ?_
 ·refine ⟨O_,?_,O_⟩
  omega
 refine wk ?_
 refine X5.mkM rfl rfl rfl rfl ?_
 refine wk ?_
 exact RetH.mk rfl (Weak.refl _) ⟨⟨_,rfl,X7.eq (by simp [dB,newD];exact ⟨rfl,rfl,rfl⟩)⟩,⟨_,rfl,X7.refl _⟩,trivial⟩ ⟨⟨rfl,rfl⟩,trivial⟩
def Y00 (d c m i:Nat):Nat:=if i=3004 then d else if i=3001 then c else if i=3002 then m else i
theorem Xik (n:Int) (h:1≤n∧n≤65536) (d c m:Nat) (hnd:(ids3 d c m).Nodup):Xe Tryz.prog 10 [pint n] [] [] (.ptr d 0) (dG d c m (newD n.toNat)) (dMs m (newD n.toNat)):=by
 have r3:X0 (dG 3004 3001 3002 (newD n.toNat)) (dMs 3002 (newD n.toNat)) = [3004,3001,3002]:=rfl
 refine (Y4h n h).ren (Y00 d c m) S_ S_ ?_ (.cons (.low _ (.val _)) .nil) .nil .nil (.ptr 3004 0 (by rw [r3];decide)) (.cons 3004 _ _ _ _ (.cons (.msl 3001 0 _ _ (by rw [r3];decide)) (.cons (.mref 3002 (by rw [r3];decide)) (.cons (.low _ (.val _)) (.cons (.low _ (.val _)) (.cons (.low _ (.val _)) .nil))))) (.cons 3001 _ _ _ _ (.low (Xm _)) .nil)) (.cons 3002 _ _ _ _ (.low (Xi _)) .nil)
 rw [r3]
 simp only [ids3,List.nodup_cons,List.mem_cons,List.not_mem_nil,or_false,not_or,List.nodup_nil,and_true,not_false_eq_true] at hnd
 obtain ⟨⟨n1,n2⟩,n3⟩:=hnd
 intro i hi j hj e
 simp only [List.mem_cons,List.not_mem_nil,or_false] at hi hj
 rcases hi with rfl|rfl|rfl<;>rcases hj with rfl|rfl|rfl<;>simp [Y00] at e ⊢ <;> first|exact absurd e n1|exact absurd e n2|exact absurd e n3|exact absurd e.symm n1|exact absurd e.symm n2|exact absurd e.symm n3
structure OkD (n:Nat) (k:Nat) (D:DM):Prop where
 dead:D.dead=false
 after:D.after = -1
 len:D.cells.length=n
 steps:0≤D.steps∧D.steps≤k
 op:opOK n D.op
 room:∀e∈D.op,e.2.2.length≤k
theorem OkD.mono {n k k' : Nat} {D:DM} (h:OkD n k D) (hk:k≤k'):OkD n k' D:=⟨h.dead,h.after,h.len,by have:=h.steps;omega,h.op,fun e he=>by have:=h.room e he;omega⟩
theorem OkD.check {n k:Nat} {D:DM} (h:OkD n k D) (i:Int):D.check i=if i < 0∨(n:Int)≤i then 1 else 0:=by
 unfold DM.check
 rw [h.dead,h.len];rfl
theorem OkD.check0 {n k:Nat} {D:DM} (h:OkD n k D) {i:Int} (h0:0≤i) (h1:i < n):D.check i=0:=by rw [h.check,if_neg O_]
theorem OkD.step {n k:Nat} {D:DM} (h:OkD n k D):D.step=(0,{ D with steps:=D.steps+1 }):=by
 unfold DM.step
 rw [h.after]
 simp
theorem X5y {i:Int} : ∀{op:List (Nat×Int×List Sec)} {n:Nat},Zz i op n=none→i∉op.map (·.2.1)
 | [],n,h=>by simp
 |(a,k,b) :: op,n,h=>by
  simp only [Zz] at h
  split at h
  ·cases h
  ·rename_i hne
   simp only [List.map_cons,List.mem_cons,not_or]
   exact ⟨hne,X5y h⟩
theorem X62 {i:Int} : ∀(op:List (Nat×Int×List Sec)) (n:Nat),Vg i op=match Zz i op n with
  |some j=>some (op.getD (j - n) default).2.2
  |none=>none
 | [],n=>rfl
 |(a,k,b) :: op,n=>by
  simp only [Vg,Zz]
  by_cases h:i=k
  ·simp [h]
  ·rw [if_neg h,if_neg h,X62 op (n+1)]
   cases hj:Zz i op (n+1) with
   |none=>rfl
   |some j=>
    have:=(X1f hj).1
    simp only
    rw [show j - n=(j - (n+1))+1 by omega];rfl
theorem X1d (D:DM) (i:Int):D.get i=(Vg i D.op).getD []:=by
 rw [DM.get,X62 D.op 0]
 cases Zz i D.op 0<;>rfl
theorem X8c {i:Int} : ∀{op:List (Nat×Int×List Sec)} {e:Nat×Int×List Sec},Vg i (op ++ [e])=match Vg i op with
  |some l=>some l
  |none=>if i=e.2.1 then some e.2.2 else none
 | [],(a,k,b)=>rfl
 |(a,k,b) :: op,e=>by
  simp only [List.cons_append,Vg]
  split
  ·rfl
  ·exact X8c
theorem Xf8 {i c:Int} : ∀{op:List (Nat×Int×List Sec)} {j s:Nat} {l l' : List Sec},(op.map (·.2.1)).Nodup→op[j]? = some (s,c,l)→Vg i (op.set j (s,c,l'))=if i=c then some l' else Vg i op
 | [],j,s,l,l',hn,h=>by simp at h
 |(a,k,b) :: op,0,s,l,l',hn,h=>by
  simp at h
  obtain ⟨rfl,rfl,rfl⟩:=h
  simp only [List.set_cons_zero,Vg]
  split<;>rfl
 |(a,k,b) :: op,j+1,s,l,l',hn,h=>by
  simp only [List.map_cons,List.nodup_cons] at hn
  simp only [List.getElem?_cons_succ] at h
  have hne:c≠k:=by
   rintro rfl
   exact hn.1 (List.mem_map.2 ⟨_,List.mem_of_getElem? h,rfl⟩)
  simp only [List.set_cons_succ,Vg,Xf8 hn.2 h]
  by_cases e:i=k
  ·subst e;rw [if_pos rfl,if_neg (fun e=>hne e.symm),if_pos rfl]
  ·rw [if_neg e,if_neg e]
theorem Xnt {n k:Nat} {D:DM} (h:OkD n k D) (i:Int) (s:Sec) (q:Int):(addW D i s).get q=if q=i then D.get i ++ [s] else D.get q:=by
 rw [X1d,X1d,X1d]
 unfold addW
 cases hj:Zz i D.op 0 with
 |none=>
  simp only
  rw [X8c,X2b (X5y hj)]
  by_cases e:q=i
  ·subst e;rw [X2b (X5y hj)];simp
  ·simp only [if_neg e]
   cases Vg q D.op<;>rfl
 |some j=>
  obtain ⟨-,h2,s',v,h3⟩:=X1f hj
  simp only [Nat.sub_zero] at h3
  simp only [G_,h3,Option.getD_some]
  rw [Xf8 h.op.1 h3,X7n h.op.1 h3]
  by_cases e:q=i
  ·subst e;simp
  ·simp [e]
theorem X5v (D:DM) (i:Int) (s:Sec):(addW D i s).cells=D.cells∧(addW D i s).steps=D.steps∧(addW D i s).after=D.after∧(addW D i s).dead=D.dead:=by
 unfold addW;split<;>exact ⟨rfl,rfl,rfl,rfl⟩
theorem Y33 {n k:Nat} {D:DM} (h:OkD n k D) {i:Int} (h0:0≤i) (h1:i < n) (hk:k < 1000000000) (s:Sec):opOK n (addW D i s).op∧∀e∈(addW D i s).op,e.2.2.length≤k+1:=by
 unfold addW
 cases hj:Zz i D.op 0 with
 |none=>
  refine ⟨⟨?_,?_⟩,?_⟩
  ·simp only [List.map_append,List.map_cons,List.map_nil,List.nodup_append,List.nodup_cons,List.not_mem_nil,not_false_eq_true,List.nodup_nil,and_true,List.mem_cons,or_false,true_and]
   refine ⟨h.op.1,fun a ha b hb=>?_⟩
   subst hb
   rintro rfl
   exact X5y hj ha
  ·intro e he
   rcases List.mem_append.1 he with he|he
   ·exact h.op.2 e he
   ·simp at he;subst he;exact ⟨h0,h1,S_,S_⟩
  ·intro e he
   rcases List.mem_append.1 he with he|he
   ·have:=h.room e he;omega
   ·simp at he;subst he;simp
 |some j=>
  obtain ⟨-,h2,s',v,h3⟩:=X1f hj
  simp only [Nat.sub_zero] at h3
  have hm:=List.mem_of_getElem? h3
  have hb:=h.op.2 _ hm
  have hr:=h.room _ hm
  simp only at hb hr
  simp only [G_,h3,Option.getD_some]
  refine ⟨⟨?_,?_⟩,?_⟩
  ·have:(D.op.set j (s',i,v ++ [s])).map (·.2.1)=D.op.map (·.2.1):=by
    rw [List.map_set]
    apply List.ext_getElem?
    intro q
    rw [List.getElem?_set]
    split
    ·rename_i e;subst e;rw [M_,h3];simp [(List.getElem?_eq_some_iff.1 h3).1]
    ·rfl
   rw [this];exact h.op.1
  ·intro e he
   rcases List.mem_or_eq_of_mem_set he with he|rfl
   ·exact h.op.2 e he
   ·exact ⟨h0,h1,S_,by simp;omega⟩
  ·intro e he
   rcases List.mem_or_eq_of_mem_set he with he|rfl
   ·have:=h.room e he;omega
   ·simp;omega
theorem OkD.write {n k:Nat} {D:DM} (h:OkD n k D) {i:Int} (h0:0≤i) (h1:i < n) (hk:k < 1000000000) (s:Sec):(D.write i s).1=0∧OkD n (k+1) (D.write i s).2∧(D.write i s).2.steps=D.steps+1:=by
 have hs:OkD n k { D with steps:=D.steps }:=h
 have e:D.write i s=(0,addW { D with steps:=D.steps+1 } i s):=by
  rw [DM.write,if_pos (h.check0 h0 h1),h.step];rfl
 rw [e]
 have hg:∀t,addW { D with steps:=t } i s = { addW D i s with steps:=t }:=by
  intro t
  unfold addW
  simp only
  split<;>rfl
 rw [hg]
 obtain ⟨c1,c2,c3,c4⟩:=X5v D i s
 obtain ⟨o1,o2⟩:=Y33 h h0 h1 hk s
 have:=h.steps
 exact ⟨rfl,⟨c4.trans h.dead,c3.trans h.after,by rw [←h.len];exact congrArg List.length c1,by simp only;omega,o1,o2⟩,rfl⟩
theorem OkD.read {n k:Nat} {D:DM} (h:OkD n k D) {q:Int} (h0:0≤q) (h1:q < n):D.read q=if 0 < (D.get q).length then (V6 (D.get q),0) else if (D.cell q).bad then (Ye,221) else ((D.cell q).s,0):=by
 rw [DM.read,if_pos (h.check0 h0 h1)]
theorem Xob (l:List Sec) (s:Sec):V6 (l ++ [s])=s:=by
 unfold V6
 rw [show ((((l ++ [s]).length:Nat):Int) - 1).toNat=l.length by simp]
 simp [G_]
theorem OkD.read_write {n k:Nat} {D:DM} (h:OkD n k D) {i:Int} (h0:0≤i) (h1:i < n) (hk:k < 1000000000) (s:Sec) {q:Int} (q0:0≤q) (q1:q < n):(D.write i s).2.read q=if q=i then (s,0) else D.read q:=by
 have hw:=h.write h0 h1 hk s
 rw [hw.2.1.read q0 q1,h.read q0 q1]
 have e:D.write i s=(0,addW { D with steps:=D.steps+1 } i s):=by
  rw [DM.write,if_pos (h.check0 h0 h1),h.step];rfl
 have hg:∀t,addW { D with steps:=t } i s = { addW D i s with steps:=t }:=by
  intro t
  unfold addW
  simp only
  split<;>rfl
 have g1:(D.write i s).2.get q=if q=i then D.get i ++ [s] else D.get q:=by
  rw [e];simp only;rw [hg];exact Xnt h i s q
 have g2:(D.write i s).2.cell q=D.cell q:=by
  rw [e];simp only;rw [hg];unfold DM.cell;rw [←(X5v D i s).1]
 rw [g1,g2]
 by_cases hq:q=i
 ·rw [if_pos hq,if_pos hq,if_pos S_,Xob]
 ·rw [if_neg hq,if_neg hq]
theorem OkD.sync {n k:Nat} {D:DM} (h:OkD n k D) (hn:0 < n):D.sync=(0,{ D with steps:=D.steps+1,cells:=synced D.cells D.op,op := [] }):=by
 rw [DM.sync,if_pos (h.check0 O_ O_),h.step];rfl
theorem Xpo (cells:List Zo) (op:List (Nat×Int×List Sec)):(synced cells op).length=cells.length:=by simp [synced]
theorem OkD.sync_ok {n k:Nat} {D:DM} (h:OkD n k D) (hn:0 < n):D.sync.1=0∧OkD n (k+1) D.sync.2∧D.sync.2.steps=D.steps+1∧D.sync.2.op = []:=by
 rw [h.sync hn]
 have:=h.steps
 exact ⟨rfl,⟨h.dead,h.after,by simp only [Xpo];exact h.len,by simp only;omega,⟨S_,S_⟩,S_⟩,rfl,rfl⟩
theorem OkD.read_sync {n k:Nat} {D:DM} (h:OkD n k D) (hn:0 < n) {q:Int} (q0:0≤q) (q1:q < n):D.sync.2.read q=D.read q:=by
 rw [(h.sync_ok hn).2.1.read q0 q1,h.read q0 q1,h.sync hn]
 have g1:({ D with steps:=D.steps+1,cells:=synced D.cells D.op,op := [] } : DM).get q = []:=by rw [X1d];rfl
 rw [g1,if_neg S_,X1d]
 have hc:({ D with steps:=D.steps+1,cells:=synced D.cells D.op,op := [] } : DM).cell q=match Vg q D.op with
   |some l=>⟨V6 l,false⟩
   |none=>D.cell q:=by
  unfold DM.cell synced
  have hl:q.toNat < D.cells.length:=by rw [h.len];omega
  simp only [G_,M_,List.getElem?_range hl,Option.map_some,Option.getD_some]
  rw [Int.toNat_of_nonneg q0]
  all_goals (cases Vg q D.op<;>rfl)
 rw [hc]
 cases hf:Vg q D.op with
 |none=>rfl
 |some l=>
  have hl:0 < l.length:=by
   rw [X62 D.op 0] at hf
   cases hj:Zz q D.op 0 with
   |none=>rw [hj] at hf;cases hf
   |some j=>
    rw [hj] at hf
    obtain ⟨-,h2,s',v,h3⟩:=X1f hj
    simp only [Nat.sub_zero,G_] at h3 hf
    rw [h3] at hf
    simp at hf
    subst hf
    exact (h.op.2 _ (List.mem_of_getElem? h3)).2.2.1
  simp [hl]
theorem Xbl (n:Nat):OkD n 0 (newD n):=⟨rfl,rfl,by simp [newD],by simp [newD],⟨by simp [newD],by simp [newD]⟩,by simp [newD]⟩
end
section
open Go.RowKit
variable {P:Program} {T:Tab} {σ:PS} {o:Oper} {i base:Nat} {ops:Array Oper} {ok:Nat→Nat→Bool} {rest:List (Nat×Oper)} {K:PS→Prop}
theorem X5.remY {d:Nat} {k:IntKind} {x y z:Int} {X Y:Operand} {t yt:TypeId} (hg:Xk ops σ o=some true) (hd:o.dst=some d) (hop:o.op = .binOp .rem t X Y yt) (hx:pev σ X = .val (.int k x)) (hy:pev σ Y = .val (.int k y)) (hb:σ.freeB (base+i)=true) (h0:y≠0) (hz:x.tmod y=z) (kn:X5 P T ops base ok rest K (σ.put d (.val (.int k z)))):X5 P T ops base ok ((i,o) :: rest) K σ:=by
 refine X5.valEq hg hd (p:=.val (.int k z)) ?_ rfl hb kn
 rw [←hz]
 simp [hop,presE,V5,pval,Xv,hx,hy,pbin,h0]
end
section
open Go.RowKit
theorem Xou (c:Zo):((Yu c).drop 0).take 64=secL c.s:=by
 rw [List.drop_zero,Yu,List.take_append_of_le_length (by rw [Xl];exact Nat.le_refl _),H_ (by rw [Xl];exact Nat.le_refl _)]
theorem Xki {T:Tab} {σ:PS} {rs:List ResultVar} {post:PV→Prop} {r:PV} (h1:V7 T σ rs=some r) (h2:Low r) (h3:post r):RetP T rs post .ret σ:=⟨r,h1,h2,h3⟩
theorem Y3x (x n:Int) (h:0 < n) : -n < x.tmod n∧x.tmod n < n∧(x.tmod n+n).tmod n=x % n:=by
 have h1:=Int.tmod_lt_of_pos x h
 have h2:=Int.lt_tmod_of_pos x h
 refine ⟨h2,h1,?_⟩
 rw [Int.tmod_eq_emod_of_nonneg O_,Int.add_emod_right]
 rw [Int.tmod_def,Int.sub_mul_emod_self_left]
def mixS (a b:Sec):Sec:=⟨a.1.take 32 ++ b.1.drop 32,by simp [a.2.1,b.2.1],fun x hx=>by
 rcases List.mem_append.1 hx with h|h
 ·exact a.2.2 x (List.mem_of_mem_take h)
 ·exact b.2.2 x (List.mem_of_mem_drop h)⟩
def X2n (c:Zo) (l:List Sec):Sec:=if 1 < l.length then l.getD (l.length - 2) default else c.s
def X1t (l:List Sec) (x:Int):Int:=x % (l.length+3)
def X6k (c:Zo) (l:List Sec) (x:Int):Zo:=
 if X1t l x=0 then c
 else if X1t l x≤l.length then ⟨l.getD (X1t l x - 1).toNat default,false⟩
 else if X1t l x=l.length+1 then ⟨Ye,true⟩
 else if (X2n c l).1=(V6 l).1 then ⟨V6 l,false⟩ else ⟨mixS (V6 l) (X2n c l),false⟩
theorem Xui (b:Sec):(((secL b).drop 32).take 32).map PV.bare=(secL b).drop 32:=by
 rw [H_ (by rw [L_,Xl];exact Nat.le_refl _),List.map_drop,Xt]
theorem Xk3 {m:Nat→Option (List PV)} {id:Nat} (b:Sec) (h:m id=some (secL b):=by rfl):X36 m 1 (.msl id 32 32 1)=some (32,(secL b).drop 32):=by
 have h1:32+32 * 1≤(secL b).length:=by rw [Xl];decide
 show (if (1:Nat)=1 then _ else none)=_
 rw [if_pos rfl,h]
 show (if 32+32 * 1≤(secL b).length then some (32,(((secL b).drop 32).take (32 * 1)).map PV.bare) else none)=_
 rw [if_pos h1,Xui]
theorem Xcz (a b:Sec):Y5 (secL a) 32 (((secL b).drop 32).take 32)=secL (mixS a b):=by
 rw [H_ (by rw [L_,Xl];exact Nat.le_refl _)]
 have h1:(secL a).drop (32+((secL b).drop 32).length) = []:=by
  refine List.drop_of_length_le ?_
  rw [L_,Xl,Xl];decide
 unfold Y5
 rw [h1,List.append_nil]
 simp only [secL,mixS,List.map_append,List.map_take,List.map_drop]
theorem Xnd (c:Zo) (l:List Sec) (x:Int) (hl:0 < l.length∧l.length≤1000000000) (hx : -9223372036854775808≤x∧x≤9223372036854775807):Xs Tryz.prog 53 [.agg (Yu c),Xdz l none,pint x] (· = .agg (Yu (X6k c l x))):=by
 have hlow:Low (.agg (Yu c)):=.agg _ (Z0 c)
 have hlow2:Low (Xdz l none):=Xir _ _
 refine Xd X6 Tryz.func53 rfl K_ (by intro p hp;simp at hp;rcases hp with rfl|rfl|rfl;exact hlow;exact hlow2;exact .val _) (by simp [Xdz,pint,PV.ownB]) (by rw [Tryz.ntmps53];simp) ?_
 rw [Tryz.ntmps53,Tryz.results53]
 refine wk ?_
 obtain ⟨k1,k2,k3⟩:=Y3x x (l.length+3) O_
 generalize hr0:x.tmod (l.length+3)=r0 at k1 k2 k3
 refine X5.remY (z:=r0) rfl rfl rfl rfl rfl rfl (by show ((l.length:Int)+3)≠0;omega) hr0 ?_
 refine wk ?_
 have hfr:X1t l x=x % (l.length+3):=rfl
 have hf:(r0+l.length+3) % ((l.length:Int)+3)=X1t l x:=by
  rw [hfr,←k3,Int.tmod_eq_emod_of_nonneg O_];congr 1;omega
 rw [hf]
 have hf0:0≤X1t l x∧X1t l x < l.length+3:=by rw [hfr];exact ⟨Int.emod_nonneg _ O_,Int.emod_lt_of_pos _ O_⟩
 unfold X6k
 generalize X1t l x=r at hf0 ⊢
 by_cases c0:r=0
 ·rw [if_pos c0]
  refine wk ?_
  exact Xki (Vb (Yq rfl rfl rfl (by (first|rfl|exact Xl _|exact Y3 _|exact Yi _|exact Yd (by assumption)|exact Yd rfl)) (by (first|rfl|exact Xt _|exact Y7 _|exact K2 _|exact Yx (fun _=>rfl) _)))) hlow rfl
 ·rw [if_neg c0]
  by_cases c1:r≤l.length
  ·rw [if_pos c1]
   refine wk ?_
   refine X5.bldA (cs:=secL (l.getD (r - 1).toNat default)) (out:=Yu ⟨l.getD (r - 1).toNat default,false⟩) rfl rfl rfl rfl rfl rfl rfl rfl (Xl _) rfl (Ko _) (Xt _) (X21 _ _) ?_
   refine wk ?_
   exact Xki (Vb (Yq rfl rfl rfl (by (first|rfl|exact Xl _|exact Y3 _|exact Yi _|exact Yd (by assumption)|exact Yd rfl)) (by (first|rfl|exact Xt _|exact Y7 _|exact K2 _|exact Yx (fun _=>rfl) _)))) (.agg _ (Z0 _)) rfl
  ·rw [if_neg c1]
   by_cases c2:r=l.length+1
   ·rw [if_pos c2]
    refine wk ?_
    exact Xki (Vb (Yq (cs:=Yu ⟨Ye,true⟩) rfl rfl rfl (by (first|rfl|exact Xl _|exact Y3 _|exact Yi _|exact Yd (by assumption)|exact Yd rfl)) (by (first|rfl|exact Xt _|exact Y7 _|exact K2 _|exact Yx (fun _=>rfl) _)))) (.agg _ (Z0 _)) rfl
   ·rw [if_neg c2]
    refine wk ?_
    refine X5.ldBA (row:=secL c.s) rfl rfl rfl rfl rfl rfl rfl ?_ (by rw [Xou,Xt]) ?_
    ·show 0+0+64≤(Yu c).length
     rw [Y3];omega
    refine wk ?_
    have hlast:l.getD ((l.length:Int) - 1).toNat default=V6 l:=rfl
    by_cases h1:1 < l.length
    ·have hb:X2n c l=l.getD ((l.length:Int) - 2).toNat default:=by
      unfold X2n;rw [if_pos h1];congr 1;omega
     have hq:=X5e (k:=.u8) (X2n c l).1 (V6 l).1 (by rw [(X2n c l).2.1,(V6 l).2.1])
     rw [hb] at hq ⊢
     refine wk ?_
     rw [(l.getD ((l.length:Int) - 2).toNat default).2.1] at hq
     refine X5.eqA rfl rfl rfl rfl rfl rfl rfl rfl hq (.inl rfl) ?_
     by_cases he:(l.getD ((l.length:Int) - 2).toNat default).1=(V6 l).1
     ·rw [if_pos he]
      refine wk ?_
      refine PW.condT (by show PV.val (.bool ((l.getD ((l.length:Int) - 2).toNat default).1 == (V6 l).1))=_;rw [he];simp) ?_
      refine wk ?_
      refine X5.bldA (cs:=secL (V6 l)) (out:=Yu ⟨V6 l,false⟩) rfl rfl rfl rfl rfl rfl rfl rfl (Xl _) rfl (Ko _) (Xt _) (X21 _ _) ?_
      refine wk ?_
      exact Xki (Vb (Yq rfl rfl rfl (by (first|rfl|exact Xl _|exact Y3 _|exact Yi _|exact Yd (by assumption)|exact Yd rfl)) (by (first|rfl|exact Xt _|exact Y7 _|exact K2 _|exact Yx (fun _=>rfl) _)))) (.agg _ (Z0 _)) rfl
     ·rw [if_neg he]
      refine wk ?_
      refine PW.condF (by show PV.val (.bool ((l.getD ((l.length:Int) - 2).toNat default).1 == (V6 l).1))=_;rw [beq_eq_false_iff_ne.2 he]) ?_
      refine wk ?_
      refine X5.copy (n2:=32) (cs:=(secL (l.getD ((l.length:Int) - 2).toNat default)).drop 32) (out:=secL (mixS (V6 l) (l.getD ((l.length:Int) - 2).toNat default))) rfl rfl rfl rfl rfl ?_ rfl rfl rfl ?_ ?_ ?_ ?_
      ·exact Xk3 (l.getD ((l.length:Int) - 2).toNat default)
      ·show 32+min 32 32 * 1≤(secL (V6 l)).length
       rw [Xl];decide
      ·rw [L_,Xl];decide
      ·exact Xcz (V6 l) (l.getD ((l.length:Int) - 2).toNat default)
      refine wk ?_
      refine X5.bldA (cs:=secL (mixS (V6 l) (l.getD ((l.length:Int) - 2).toNat default))) (out:=Yu ⟨mixS (V6 l) (l.getD ((l.length:Int) - 2).toNat default),false⟩) rfl rfl rfl rfl rfl rfl rfl rfl (Xl _) rfl (Ko _) (Xt _) (X21 _ _) ?_
      refine wk ?_
      exact Xki (Vb (Yq rfl rfl rfl (by (first|rfl|exact Xl _|exact Y3 _|exact Yi _|exact Yd (by assumption)|exact Yd rfl)) (by (first|rfl|exact Xt _|exact Y7 _|exact K2 _|exact Yx (fun _=>rfl) _)))) (.agg _ (Z0 _)) rfl
    ·have hb:X2n c l=c.s:=by
      unfold X2n;rw [if_neg h1]
     have hq:=X5e (k:=.u8) (X2n c l).1 (V6 l).1 (by rw [(X2n c l).2.1,(V6 l).2.1])
     rw [hb] at hq ⊢
     refine wk ?_
     rw [c.s.2.1] at hq
     refine X5.eqA rfl rfl rfl rfl rfl rfl rfl rfl hq (.inl rfl) ?_
     by_cases he:c.s.1=(V6 l).1
     ·rw [if_pos he]
      refine wk ?_
      refine PW.condT (by show PV.val (.bool (c.s.1 == (V6 l).1))=_;rw [he];simp) ?_
      refine wk ?_
      refine X5.bldA (cs:=secL (V6 l)) (out:=Yu ⟨V6 l,false⟩) rfl rfl rfl rfl rfl rfl rfl rfl (Xl _) rfl (Ko _) (Xt _) (X21 _ _) ?_
      refine wk ?_
      exact Xki (Vb (Yq rfl rfl rfl (by (first|rfl|exact Xl _|exact Y3 _|exact Yi _|exact Yd (by assumption)|exact Yd rfl)) (by (first|rfl|exact Xt _|exact Y7 _|exact K2 _|exact Yx (fun _=>rfl) _)))) (.agg _ (Z0 _)) rfl
     ·rw [if_neg he]
      refine wk ?_
      refine PW.condF (by show PV.val (.bool (c.s.1 == (V6 l).1))=_;rw [beq_eq_false_iff_ne.2 he]) ?_
      refine wk ?_
      refine X5.copy (n2:=32) (cs:=(secL c.s).drop 32) (out:=secL (mixS (V6 l) c.s)) rfl rfl rfl rfl rfl ?_ rfl rfl rfl ?_ ?_ ?_ ?_
      ·exact Xk3 c.s
      ·show 32+min 32 32 * 1≤(secL (V6 l)).length
       rw [Xl];decide
      ·rw [L_,Xl];decide
      ·exact Xcz (V6 l) c.s
      refine wk ?_
      refine X5.bldA (cs:=secL (mixS (V6 l) c.s)) (out:=Yu ⟨mixS (V6 l) c.s,false⟩) rfl rfl rfl rfl rfl rfl rfl rfl (Xl _) rfl (Ko _) (Xt _) (X21 _ _) ?_
      refine wk ?_
      exact Xki (Vb (Yq rfl rfl rfl (by (first|rfl|exact Xl _|exact Y3 _|exact Yi _|exact Yd (by assumption)|exact Yd rfl)) (by (first|rfl|exact Xt _|exact Y7 _|exact K2 _|exact Yx (fun _=>rfl) _)))) (.agg _ (Z0 _)) rfl
end
section
open Go.RowKit Go.Sort
def X43 (l:List Int):List Int:=l.mergeSort fun x y=>decide (x≤y)
theorem X08 (l:List Int):(X43 l).length=l.length:=List.length_mergeSort ..
theorem X9s (l:List Int):(X43 l).Perm l:=List.mergeSort_perm ..
theorem Xa3 (l:List Int):(X43 l).Pairwise (fun a b=>a≤b):=by
 have:=List.pairwise_mergeSort (le:=fun x y:Int=>decide (x≤y)) (fun a b c h1 h2=>by simp at *; omega) (fun a b=>by simp;omega) l
 unfold X43;simpa using this
theorem Y3k (l:List Int) (hn:0 < l.length∧l.length≤1000000000) (id:Nat):Xe Tryz.prog 80 [.msl id 0 l.length 1] [(id,l.map pint)] [] (.tup []) [(id,(X43 l).map pint)] []:=by
 refine ⟨K_,fun Φ μ ω w vs himm hgl hrep hgb _ hlt=>?_⟩
 have hl1:=hrep.1
 match vs,hl1 with
 | [v],_=>
 have hv:=hrep.2 0 _ v rfl rfl
 obtain ⟨a,cap,rfl,c1,c2,c3⟩:=hv.msl_inv
 obtain ⟨g,hg,rfl⟩:=c3 hn.1
 obtain ⟨g',cur,T,b1,b2,-,b4,b5,b6,b7⟩:=hgb (id,l.map pint) S_
 simp only at b1 b4 b6 b7
 rw [hg] at b1
 cases b1
 have hlt':=(Array.getElem?_eq_some_iff.1 b2).1
 have hsz:l.length≤cur.size:=by simpa using b6
 have hcur:∀j,j < l.length→cur[j]? = some (.int .i64 (l.getD j 0)):=by
  intro j hj
  obtain ⟨u,r1,-,r3,-⟩:=b7 j (pint l[j]) (by simp [hj])
  obtain ⟨r4,-⟩:=r3.val_inv
  rw [r1,r4];simp [hj]
 have ht:cur.toList.take l.length=l.map (Value.int .i64):=by
  apply List.ext_getElem?
  intro j
  by_cases hj:j < l.length
  ·rw [List.getElem?_take_of_lt hj,Array.getElem?_toList,hcur j hj]
   simp [hj]
  ·rw [List.getElem?_take_eq_none O_,List.getElem?_eq_none (by simp;omega)]
 refine (Tryz.slices_Sort_int g 0 cap l w (holds_of_blockI b2 ht) hlt' O_).mono ?_
 rintro e w' ⟨rfl,n,os,hw⟩
 have hgr:=grownBy_sortedI (w:=w) (g:=g) (n:=n) (os:=os) (X43 l).toArray
 have hheap:=heap_sortedI (n:=n) (os:=os) (X43 l).toArray b2
 unfold X43 at hgr hheap
 rw [←hw] at hgr hheap
 rw [show (l.mergeSort fun x y=>decide (x≤y))=X43 l from rfl] at hheap
 have hgiv:Giv ω (X0 [(id,l.map pint)] []) g:=⟨id,by simp [X0], .box id, .inl rfl,b4⟩
 have hoth:∀k,k < w.heap.size→k≠g→w'.heap[k]? = w.heap[k]?:=fun k hk hne=>hgr.block k hk (by simpa using hne)
 refine ⟨_,Φ,fun i=>if i=id then μ i else none,fun g' => if g' = g then some (.box id) else none,rfl,RepL.nil.tup,fun b o u e=>?_,fun _ _ _ e=>e,fun _ _ _ _=>rfl,⟨hgr.os,hgr.tape,hgr.output,hgr.size,fun k hk=>hoth k hk.1 (by rintro rfl;exact hk.2 hgiv)⟩,fun i hi=>?_,fun i g' e=>?_,fun x hx=>?_,fun x hx=>by simp at hx,fun g' p e=>?_,fun n k cs E e=>by cases e⟩
 ·have h0:=himm b o u e
  have hne:b≠g:=by rintro rfl;rw [b5] at e;cases e
  have hb:=World.block_lt_of_cell? _ _ h0
  simp only [World.cell?] at h0 ⊢
  rw [hoth b hb hne];exact h0
 ·simp [X0] at hi;subst hi;simp
 ·by_cases hi:i=id
  ·subst hi;simp [X0]
  ·simp [hi] at e
 ·simp at hx
  subst hx
  refine ⟨g,_,T,by simpa using hg,hheap, .inr hgiv,S_,b5,by simp [putCells,X08];omega,fun j c hc=>?_⟩
  have hj:j < l.length:=by have:=(List.getElem?_eq_some_iff.1 hc).1;simpa [X08] using this
  have hj2:j < (X43 l).length:=by rw [X08];exact hj
  have htk:=take_putCellsI cur (X43 l) (by rw [X08];exact hsz)
  have h3:((putCells (Value.int .i64) 0 (X43 l).toArray cur).toList.take (X43 l).length)[j]? = ((X43 l).map (Value.int .i64))[j]?:=by rw [htk]
  rw [List.getElem?_take_of_lt hj2,Array.getElem?_toList] at h3
  simp only [M_,E_ hj2,Option.map_some,Option.some.injEq] at hc h3
  subst hc
  exact ⟨_,h3,rfl, .val _ rfl,fun n k cs E e=>by cases e⟩
 ·by_cases hg' : g' = g
  ·subst hg'
   exact ⟨Nat.lt_of_lt_of_le hlt' hgr.size, .inr hgiv⟩
  ·simp [hg'] at e
theorem Xwx:Xs Tryz.prog 80 [.sl 0 1 [] none] (· = .tup []):=by
 refine ⟨K_,fun Φ μ w vs himm hgl hrep=>?_⟩
 have hl1:=hrep.1
 match vs,hl1 with
 | [v],_=>
 obtain ⟨a,-,-,cap,-,rfl,-⟩:=(hrep.2 0 _ v rfl rfl).sl_inv
 refine (Tryz.slices_Sort_int_none a cap w).mono ?_
 rintro e w' ⟨rfl,rfl⟩
 exact ⟨.tup [],_,Φ,rfl,rfl,RepL.nil.tup,himm,fun _ _ _=>rfl,Below.refl _ _,fun n k cs E e=>by cases e⟩
end
section
open Go.RowKit
def Xz8 (op:List (Nat×Int×List Sec)):List Int:=op.map (·.2.1)
def DM.keys (D:DM):List Int:=X43 (Xz8 D.op)
theorem Xv9 {α:Type} {op:List (Nat×α)} (hn:(op.map (·.1)).Nodup) {e e' : Nat×α} (he:e∈op) (he' : e'∈op) (h:e.1=e'.1):e=e':=by
 induction op with
 |nil=>simp at he
 |cons x op ih=>
  simp only [List.map_cons,List.nodup_cons] at hn
  rcases List.mem_cons.1 he with h1|h1<;>rcases List.mem_cons.1 he' with h2|h2
  ·rw [h1,h2]
  ·exact (hn.1 (List.mem_map.2 ⟨e',h2,by rw [←h,h1]⟩)).elim
  ·exact (hn.1 (List.mem_map.2 ⟨e,h1,by rw [h,h2]⟩)).elim
  ·exact ih hn.2 h1 h2
theorem Xh3 {l:List Nat} : ∀{l' : List Nat},l.Nodup→(∀x∈l,x∈l')→l.length≤l'.length:=by
 induction l with
 |nil=>intro l' _ _;simp
 |cons a l ih=>
  intro l' hn h
  rw [List.nodup_cons] at hn
  have h1:=h a S_
  have h2:=ih (l':=l'.erase a) hn.2 (fun x hx=>(List.mem_erase_of_ne (by rintro rfl;exact hn.1 hx)).2 (h x (by simp [hx])))
  rw [List.length_erase_of_mem h1] at h2
  have h3:=List.length_pos_of_mem h1
  simp;omega
theorem Xvp {op:List (Nat×Int×List Sec)} (hn:(op.map (·.1)).Nodup):∀{p:List (Nat×Int)},(p.map (·.1)).Nodup→(∀x∈p,∃e∈op,e.1=x.1∧e.2.1=x.2)→(∀e∈op,e.1∈p.map (·.1))→(p.map (·.2)).Perm (Xz8 op):=by
 intro p hp h1 h2
 have h3:p.Perm (op.map fun e=>(e.1,e.2.1)):=by
  rw [List.perm_ext_iff_of_nodup]
  ·rintro ⟨s,k⟩
   constructor
   ·intro hx
    obtain ⟨e,he,e1,e2⟩:=h1 _ hx
    exact List.mem_map.2 ⟨e,he,by rw [e1,e2]⟩
   ·intro hx
    obtain ⟨e,he,e1⟩:=List.mem_map.1 hx
    cases e1
    obtain ⟨⟨s',k'⟩,hy,e2⟩:=List.mem_map.1 (h2 e he)
    simp only at e2
    subst e2
    obtain ⟨e',he',f1,f2⟩:=h1 _ hy
    simp only at f1 f2
    have:e' = e:=Xv9 hn he' he f1
    subst this
    rw [f2];exact hy
  ·exact (List.Pairwise.of_map (S:=(· ≠ ·)) (fun x=>x.1) (fun _ _ h e=>h (by rw [e])) hp)
  ·refine List.Pairwise.of_map (S:=(· ≠ ·)) (fun x=>x.1) (fun _ _ h e=>h (by rw [e])) ?_
   rw [List.map_map];exact hn
 have h4:=h3.map (·.2)
 rw [List.map_map] at h4
 exact h4
theorem Xxd {l l' : List Int} (h:l.Perm l'):X43 l=X43 l':=by
 have h1:=Xa3 l
 have h2:=Xa3 l'
 exact ((X9s l).trans (h.trans (X9s l').symm)).eq_of_pairwise (fun a b _ _ h1 h2=>by omega) h1 h2
theorem Xjt {op:List (Nat×Int×List Sec)} {p:List (Nat×Int)} (hp:(p.map (·.1)).Nodup) (h1:∀x∈p,∃e∈op,e.1=x.1∧e.2.1=x.2):p.length≤op.length:=by
 have:=Xh3 (l':=op.map (·.1)) hp (fun s hs=>by
  obtain ⟨x,hx,rfl⟩:=List.mem_map.1 hs
  obtain ⟨e,he,e1,-⟩:=h1 x hx
  exact List.mem_map.2 ⟨e,he,e1⟩)
 simpa using this
theorem Xoz (D:DM):Xm1 (((bot.setb 1000001 (dB 1000002 1000003 D)).setb 1000002 (dC D)).setm 1000003 (dM D)):=by
 refine ⟨fun t=>.inl .undef,fun i bs e c hc=>?_,fun i es clock e x hx=>?_⟩
 ·simp only [PS.setm,PS.setb,bot,X8] at e
  split at e
  ·cases e
   obtain ⟨x,-,hx⟩:=List.mem_flatMap.1 hc
   rcases List.mem_append.1 hx with h|h
   ·obtain ⟨z,-,rfl⟩:=List.mem_map.1 h;exact .inl (.val _)
   ·simp at h;subst h;exact .inl (.val _)
  ·split at e
   ·cases e
    simp only [dB,List.mem_cons,List.not_mem_nil,or_false] at hc
    rcases hc with rfl|rfl|rfl|rfl|rfl
    ·exact .inl (.msl ..)
    ·exact .inl (.mref _)
    ·exact .inl (.val _)
    ·exact .inl (.val _)
    ·exact .inl (.val _)
   ·cases e
 ·simp only [PS.setm,PS.setb,bot,X8] at e
  split at e
  ·cases e
   obtain ⟨y,-,rfl⟩:=List.mem_map.1 hx
   refine ⟨.val _, .inr ⟨_,_,_,_,rfl,D_,fun p hp=>?_⟩⟩
   obtain ⟨s,-,hs⟩:=List.mem_flatMap.1 hp
   obtain ⟨z,-,rfl⟩:=List.mem_map.1 hs
   exact .val _
  ·cases e
theorem Xp6 (D:DM) (hop:D.op.length≤1000000000):X6q 52 [] D (Kd D.keys) D:=by
 refine Vo Tryz.func52 rfl rfl S_ S_ N_ (by exact lw) ?_
 refine wk ?_
 refine X5.rng rfl rfl rfl rfl rfl rfl rfl rfl ?_
 refine wk ?_
 refine PW.stamps (id:=1000003) rfl (fun hs=>?_)
 have hst:(D.op.map (·.1)).Nodup:=by
  have:=hs.1
  rw [List.map_map] at this;exact this
 refine PW.loop (fun p:List (Nat×Int)=>((((((bot.setb 1000001 (dB 1000002 1000003 D)).setb 1000002 (dC D)).setm 1000003 (dM D)).setm 2004 (.iter 1000003 D.clock (p.map (·.1)) D.clock)).put 0 (.ptr 1000001 0)).put 9 (.ptr 2004 0)).put 3 (.sl p.length 1 ((p.map (·.2)).map pint) (some 3)))
  (fun p=>(p.map (·.1)).Nodup∧∀x∈p,∃e∈D.op,e.1=x.1∧e.2.1=x.2) (fun p=>D.op.length - p.length) [] ?_ ?_ ?_
 ·exact ⟨List.nodup_nil,S_⟩
 ·have hl:=Xm D
  have hlm:=Xi D
  exact sb
 ·rintro p ⟨i1,i2⟩
  have hpl:=Xjt i1 i2
  refine PW.seq ?_
  refine Y0w X6 (it:=2004) (mid:=1000003) (es:=D.op.map dE) (clock:=D.clock) rfl rfl rfl D_ rfl ?_ ?_ ?_
  ·cases hsn:D.op with
   |nil=>exact .inr (.inl rfl)
   |cons e r=>
    refine .inr (.inr ⟨dE e,S_,?_⟩)
    exact hs.2 _ (List.mem_map_of_mem (f:=dE) (show e∈D.op by rw [hsn];simp))
  ·intro hno
   have hall:∀e∈D.op,e.1∈p.map (·.1):=fun e he=>hno (dE e) (List.mem_map_of_mem he) (hs.2 _ (List.mem_map_of_mem he))
   have hperm:=Xvp hst i1 i2 hall
   have hkeys:D.keys=X43 (p.map (·.2)):=by unfold DM.keys;exact (Xxd hperm).symm
   refine wg ?_
   rcases Nat.eq_zero_or_pos p.length with h0|h0
   ·obtain rfl:p = []:=List.eq_nil_of_length_eq_zero h0
    have hk0:D.keys = []:=by rw [hkeys];simp [X43]
    rw [hk0]
    have hsort:=Xwx
    refine wk ?_
    exact RetH.mk rfl (Weak.refl _) aw0 am0
   ·have hsort:=Y3k (p.map (·.2)) ⟨by simpa using h0,by simp;omega⟩ 900001
    rw [←hkeys] at hsort
    have hkl:D.keys.length=p.length:=by rw [hkeys,X08,List.length_map]
    rw [List.length_map] at hsort
    refine PW.thaw (s:=3) (id:=900001) (σ':=((bot.setb 1000001 (dB 1000002 1000003 D)).setb 1000002 (dC D)).setm 1000003 (dM D)) rfl D_ h0 ?_ rfl D_ rfl (Xoz D) ?_
    ·have hl:=Xm D
     have hlm:=Xi D
     exact sbr0
    refine PW.region X6 K_ ?_
    refine wg ?_
    refine PW.freeze (s:=3) (id:=900001) (σ':=((bot.setb 1000001 (dB 1000002 1000003 D)).setb 1000002 (dC D)).setm 1000003 (dM D)) rfl rfl (by rw [List.length_map,hkl,Nat.mul_one]) (fun c hc=>by obtain ⟨z,-,rfl⟩:=List.mem_map.1 hc;exact .val _) ?_ rfl ?_
    ·have hl:=Xm D
     have hlm:=Xi D
     exact sbr0
    rw [←hkl]
    refine wk ?_
    exact RetH.mk rfl (Weak.refl _) aw0 am0
  ·intro e' he' hns
   obtain ⟨e,he,rfl⟩:=List.mem_map.1 he'
   have hfs:=X8q (es:=D.op.map dE) (e:=dE e) hs.1 he'
   have hlt:p.length < D.op.length:=by
    have h1:=Xjt (op:=D.op) (p:=p ++ [(e.1,e.2.1)]) (by
     rw [List.map_append,List.nodup_append]
     exact ⟨i1,S_,fun x hx y hy=>by simp at hy;subst hy;rintro rfl;exact hns hx⟩) (fun x hx=>by
     rcases List.mem_append.1 hx with h|h
     ·exact i2 x h
     ·simp at h;subst h;exact ⟨e,he,rfl,rfl⟩)
    simp at h1;omega
   refine wk ?_
   refine X5.ent (seen:=p.map (·.1)) (s:=e.1) rfl rfl rfl rfl rfl rfl rfl hfs rfl ?_
   refine wk ?_
   refine Y4 (p ++ [(e.1,e.2.1)]) ⟨?_,?_⟩ ?_ ?_
   ·rw [List.map_append,List.nodup_append]
    exact ⟨i1,S_,fun x hx y hy=>by simp at hy;subst hy;rintro rfl;exact hns hx⟩
   ·intro x hx
    rcases List.mem_append.1 hx with h|h
    ·exact i2 x h
    ·simp at h;subst h;exact ⟨e,he,rfl,rfl⟩
   ·simp;omega
   ·have hl:=Xm D
    have hlm:=Xi D
    try dsimp only
    have hp3:Low (.sl (p.length+1) 1 ((p.map (·.2)).map pint ++ [pint e.2.1]) (some 3)):=.sl _ _ _ _ (fun c hc=>by
     rcases List.mem_append.1 hc with h|h
     ·obtain ⟨z,-,rfl⟩:=List.mem_map.1 h;exact .val _
     ·simp at h;subst h;exact .val _)
    rw [List.map_append,List.map_append,List.map_append,A_]
    dsimp only [List.map_cons,List.map_nil,C_,List.length_nil,Nat.zero_add]
    exact sb
def renN:List (Nat×Nat)→Nat→Nat
 | [],i=>i
 |(a,b) :: l,i=>cond (Nat.beq i a) b (renN l i)
theorem Xhc:∀{l:List (Nat×Nat)} {i:Nat},i∈l.map (·.1)→(i,renN l i)∈l
 | [],i,h=>by simp at h
 |(a,b) :: l,i,h=>by
  unfold renN
  cases e:Nat.beq i a with
  |true=>
   have e':=Nat.eq_of_beq_eq_true e
   subst e'; exact List.mem_cons_self ..
  |false=>
   refine List.mem_cons_of_mem _ (Xhc ?_)
   rcases List.mem_cons.1 h with rfl|h
   ·rw [Nat.beq_refl] at e;cases e
   ·exact h
theorem Xns {l:List (Nat×Nat)} (h2:(l.map (·.2)).Nodup):∀i∈l.map (·.1),∀j∈l.map (·.1),renN l i=renN l j→i=j:=by
 intro i hi j hj e
 have h3:=Xhc hi
 have h4:=Xhc hj
 rw [e] at h3
 have key:∀{l:List (Nat×Nat)} {a b c:Nat},(l.map (·.2)).Nodup→(a,c)∈l→(b,c)∈l→a=b:=by
  intro l
  induction l with
  |nil=>intro a b c _ h;simp at h
  |cons x l ih=>
   intro a b c hn ha hb
   simp only [List.map_cons,List.nodup_cons] at hn
   rcases List.mem_cons.1 ha with ha|ha<;>rcases List.mem_cons.1 hb with hb|hb
   ·rw [←ha] at hb;cases hb;rfl
   ·exact absurd (List.mem_map.2 ⟨_,hb,by rw [←ha]⟩) hn.1
   ·exact absurd (List.mem_map.2 ⟨_,ha,by rw [←hb]⟩) hn.1
   ·exact ih hn.2 ha hb
 exact key h2 h3 h4
end
section
open Go.RowKit
variable {S:Nat→Prop}
theorem Y2:∀p∈([]:List PV),LowI S p:=S_
theorem X9 {p:PV} {ps:List PV} (h:LowI S p) (hs:∀q∈ps,LowI S q):∀q∈p :: ps,LowI S q:=by
 intro q hq
 rcases List.mem_cons.1 hq with rfl|hq
 ·exact h
 ·exact hs q hq
theorem X1h {ps:List PV} (h:∀p∈ps,Low p):∀p∈ps,LowI S p:=fun p hp=>(h p hp).lowI
theorem X2i:∀x∈([]:List (Nat×List PV)),∀p∈x.2,LowI S p:=S_
theorem Yt {i:Nat} {bs:List PV} {l:List (Nat×List PV)} (h:∀p∈bs,LowI S p) (hs:∀x∈l,∀p∈x.2,LowI S p):∀x∈(i,bs) :: l,∀p∈x.2,LowI S p:=by
 intro x hx
 rcases List.mem_cons.1 hx with rfl|hx
 ·exact h
 ·exact hs x hx
theorem Vw:∀x∈([]:List (Nat×PMap)),LowM S x.2:=S_
theorem X8u {i:Nat} {es:List (Nat×PV×PV)} {c:Nat} {l:List (Nat×PMap)} (h:∀e∈es,Low e.2.1∧Low e.2.2) (hs:∀x∈l,LowM S x.2):∀x∈(i,PMap.map es c) :: l,LowM S x.2:=by
 intro x hx
 rcases List.mem_cons.1 hx with rfl|hx
 ·exact fun e he=>⟨(h e he).1.lowI,(h e he).2.lowI⟩
 ·exact hs x hx
end
section
open Go.RowKit
variable {ρ:Nat→Nat} {S:Nat→Prop} {ps qs:List PV}
theorem Xlq (h:RenL ρ S ps qs):Ren ρ S (.agg ps) (.agg qs):=.agg _ _ h.1 h.2
theorem Xjg {f:FuncId} (h:RenL ρ S ps qs):Ren ρ S (.fn f ps) (.fn f qs):=.fn _ _ _ h.1 h.2
theorem Y6h {n k:Nat} (h:RenL ρ S ps qs):Ren ρ S (.sl n k ps none) (.sl n k qs none):=.sl _ _ _ _ h.1 h.2
end
section
open Go.RowKit
theorem Xe.at {P:Program} {f:FuncId} {args args' : List PV} {given given' res res' : List (Nat×List PV)} {gm gm' rm rm' : List (Nat×PMap)} {r r' : PV} (h:Xe P f args given gm r res rm) (L:List (Nat×Nat)) (hd:(L.map (·.2)).Nodup) (hs:∀i∈X0 res rm,i∈L.map (·.1)) (hs1:∀i∈given.map (·.1),i∈res.map (·.1)) (hs2:∀i∈gm.map (·.1),i∈rm.map (·.1))
  (ha:RenL (renN L) (fun i=>i∈X0 given gm) args args') (hg:RenB (renN L) (fun i=>i∈X0 given gm) given given') (hm:Kc (renN L) (fun i=>i∈X0 given gm) gm gm')
  (hr:Ren (renN L) (fun i=>i∈X0 res rm) r r') (hres:RenB (renN L) (fun i=>i∈X0 res rm) res res') (hrm:Kc (renN L) (fun i=>i∈X0 res rm) rm rm'):Xe P f args' given' gm' r' res' rm':=
 h.ren (renN L) hs1 hs2 (fun i hi j hj e=>Xns hd i (hs i hi) j (hs j hj) e) ha hg hm hr hres hrm
structure PPut where
 sec:Int
 dat:Sec
instance:Inhabited PPut:=⟨⟨0,Ye⟩⟩
def putL (p:PPut):List PV:=pint p.sec :: secL p.dat
theorem Yi (p:PPut):(putL p).length=65:=by simp [putL,Xl]
theorem Vp (p:PPut):∀c∈putL p,Low c:=by
 intro c hc
 rcases List.mem_cons.1 hc with rfl|hc
 ·exact .val _
 ·exact Zc _ c hc
theorem X0l (p:PPut):(putL p).all PV.one=true:=by rw [putL,List.all_cons,Ko];rfl
theorem K2 (p:PPut):(putL p).map PV.bare=putL p:=by rw [putL,List.map_cons,Xt];rfl
def Yo (l:List PPut):PV:=.sl l.length 65 (l.flatMap putL) none
theorem Kw (l:List PPut):Low (Yo l):=.sl _ _ _ _ (V9 Vp l)
def DM.puts (D:DM):List PPut→DM
 | []=>D
 |p :: l=>DM.puts (D.write p.sec p.dat).2 l
def InD (n:Nat) (l:List PPut):Prop:=∀p∈l,0≤p.sec∧p.sec < n
theorem OkD.puts {n:Nat} : ∀(l:List PPut) {k:Nat} {D:DM},OkD n k D→InD n l→k+l.length≤1000000000→OkD n (k+l.length) (D.puts l)∧(D.puts l).steps=D.steps+l.length
 | [],k,D,h,_,_=>⟨h,by simp [DM.puts]⟩
 |p :: l,k,D,h,hi,hk=>by
  simp only [C_] at hk
  obtain ⟨h0,h1⟩:=hi p (List.mem_cons_self ..)
  obtain ⟨w1,w2,w3⟩:=h.write h0 h1 O_ p.dat
  obtain ⟨i1,i2⟩:=OkD.puts l w2 (fun q hq=>hi q (List.mem_cons_of_mem _ hq)) O_
  rw [DM.puts]
  refine ⟨?_,by rw [i2,w3];simp only [C_];omega⟩
  rw [C_,show k+(l.length+1)=k+1+l.length by omega]
  exact i1
def Vh (q:Int):List PPut→Option Sec
 | []=>none
 |p :: l=>match Vh q l with
  |some s=>some s
  |none=>if p.sec=q then some p.dat else none
theorem OkD.read_puts {n:Nat} : ∀(l:List PPut) {k:Nat} {D:DM},OkD n k D→InD n l→k+l.length≤1000000000→∀{q:Int},0≤q→q < n→(D.puts l).read q=match Vh q l with
  |some s=>(s,0)
  |none=>D.read q
 | [],k,D,h,_,_,q,_,_=>rfl
 |p :: l,k,D,h,hi,hk,q,q0,q1=>by
  simp only [C_] at hk
  obtain ⟨h0,h1⟩:=hi p (List.mem_cons_self ..)
  obtain ⟨w1,w2,w3⟩:=h.write h0 h1 O_ p.dat
  rw [DM.puts,OkD.read_puts l w2 (fun q hq=>hi q (List.mem_cons_of_mem _ hq)) O_ q0 q1,Vh]
  cases Vh q l with
  |some s=>rfl
  |none=>
   simp only
   rw [h.read_write h0 h1 O_ p.dat q0 q1]
   by_cases e:q=p.sec
   ·rw [if_pos e,if_pos e.symm]
   ·rw [if_neg e,if_neg (fun h=>e h.symm)]
theorem X5t {q:Int} : ∀{l:List PPut},(∀p∈l,p.sec≠q)→Vh q l=none
 | [],_=>rfl
 |p :: l,h=>by rw [Vh,X5t (fun x hx=>h x (List.mem_cons_of_mem _ hx))];simp [h p (List.mem_cons_self ..)]
def Xg (n:Int):Int:=(n+15) / 16
def Yl (m:Int):Int:=if m < 1∨1024 < m then 0 else 1+Xg m+m
def setB (s:Sec) (j:Nat) (z:Int):Sec:=⟨s.1.set j (IntKind.u8.wrap z),by
 rw [List.length_set];exact s.2.1,fun x hx=>by
  rcases List.mem_or_eq_of_mem_set hx with hx|rfl
  ·exact s.2.2 x hx
  ·rw [IntKind.wrap_u8];omega⟩
theorem X66 (n:Int) (h0:0≤n) (h:n≤1000000000000):Xs Tryz.prog 81 [pint n] (· = pint (Xg n)):=by
 refine Xd X6 Tryz.func81 rfl K_ (by exact lw) (by simp [pint,PV.ownB]) N_ ?_
 refine wk ?_
 refine retP rfl (by exact lw) ?_
 rw [Xg,show n+16 - 1=n+15 by omega];rfl
theorem X5r (m:Int):Xs Tryz.prog 56 [pint m] (· = pint (Yl m)):=by
 refine Xd X6 Tryz.func56 rfl K_ (by exact lw) (by simp [pint,PV.ownB]) N_ ?_
 by_cases h1:m < 1
 ·rw [Yl,if_pos (.inl h1)]
  refine wk ?_
  exact retP rfl (by exact lw) rfl
 ·by_cases h2:1024 < m
  ·rw [Yl,if_pos (.inr h2)]
   refine wk ?_
   exact retP rfl (by exact lw) rfl
  ·rw [Yl,if_neg O_]
   have hn:=X66 m O_ O_
   have hb:0≤Xg m∧Xg m≤1000:=by unfold Xg;omega
   generalize Xg m=q at *
   refine wk ?_
   exact retP rfl (by exact lw) rfl
def jB (d:Nat) (at_ most:Int):List PV := [.ptr d 0,pint at_,pint most]
def jG (d c m j:Nat) (at_ most:Int) (D:DM):List (Nat×List PV):=(j,jB d at_ most) :: dG d c m D
def ids4 (d c m j:Nat):List (Nat×Nat) := [(1000001,d),(1000002,c),(1000003,m),(1000004,j)]
theorem Xet (G:List Int):∀c∈G.map Xh,X0s c:=by
 intro c hc
 obtain ⟨z,-,rfl⟩:=List.mem_map.1 hc
 exact X9n rfl
def Xw4 (n:Int) (G:List Int):List Int:=IntKind.u8.wrap n :: IntKind.u8.wrap (n / 256) :: (G ++ List.replicate 46 0)
def Xq (n:Int) (G:List Int) (hG:G.length=16) (hr:∀x∈G,0≤x∧x < 256):Sec:=⟨Xw4 n G,by simp [Xw4,hG],by
 intro x hx
 rcases List.mem_cons.1 hx with rfl|hx
 ·rw [IntKind.wrap_u8];omega
 rcases List.mem_cons.1 hx with rfl|hx
 ·rw [IntKind.wrap_u8];omega
 rcases List.mem_append.1 hx with hx|hx
 ·exact hr x hx
 ·rw [(List.mem_replicate.1 hx).2];omega⟩
theorem Xdd (n:Int) (G:List Int) (hG:G.length=16) (hr:∀x∈G,0≤x∧x < 256):Y5 (Xh (IntKind.u8.wrap n) :: Xh (IntKind.u8.wrap (n.fdiv (2 ^ min (Int.toNat 8) (IntKind.bits .i64)))) :: List.replicate 62 (Xh 0)) 2 ((G.map Xh).take 16)=secL (Xq n G hG hr):=by
 have e1:(G.map Xh).take 16=G.map Xh:=H_ (by simp [hG])
 have e2:(G.map Xh).length=16:=by simp [hG]
 have e3:n.fdiv (2 ^ min (Int.toNat 8) (IntKind.bits .i64))=n / 256:=by
  show n.fdiv 256=n / 256
  exact Int.fdiv_eq_ediv_of_nonneg n D_
 rw [e1,e3,Y5,e2,secL]
 show _=List.map Xh (Xw4 n G)
 rw [Xw4,List.map_cons,List.map_cons,List.map_append]
 show _ :: _ :: ([] ++ G.map Xh ++ _)=_
 rw [List.nil_append];rfl
def doM (d:List Sec):List PPut→List Sec
 | []=>d
 |p :: l=>doM (d.set p.sec.toNat p.dat) l
theorem X7l:∀(l:List PPut) (d:List Sec),(doM d l).length=d.length
 | [],d=>rfl
 |p :: l,d=>by rw [doM,X7l l,List.length_set]
instance:Inhabited (List PPut):=⟨[]⟩
abbrev Come:=Option (List (List PV))
noncomputable def offI (Φ:Imm) (ω:Nat→Option Who):Imm:=freshI (fun _ _=>none) Φ ω
theorem X53 {Φ:Imm} {ω:Nat→Option Who} {b o:Nat} {u:Value} : offI Φ ω b o=some u↔(∀p,ω b≠some p)∧Φ b o=some u:=by
 unfold offI
 constructor
 ·intro h
  by_cases hh:∃p,ω b=some p
  ·rw [Zb hh] at h;cases h
  ·have:∀p,ω b≠some p:=fun p e=>hh ⟨p,e⟩
   rw [Zq this] at h
   exact ⟨this,h⟩
 ·rintro ⟨h1,h2⟩
  rw [Zq h1];exact h2
structure Xag where
 J:Come→(Nat→Prop)→Imm→World→Prop
 step:∀{κ:Come} {I I' : Nat→Prop} {K K' : Imm} {w w' : World},J κ I K w→Kept (fun b=>b < w.heap.size∧¬I b) w w'→(∀g,I' g→I g∨w.heap.size≤g)→(∀b o u,K b o=some u→I b→K' b o=some u)→(∀b o u,K' b o=some u→w'.cell? ⟨b,o,none⟩=some u)→J κ I' K' w'
def YOK (P:Program) (E:Xag) (l:Nat) (A:List (List PV)→Prop) (Φe:Imm) (Lb:Nat→Prop) (B0:Nat):Prop:=
 ∀(pre:List (List PV)) (x:List PV) (I:Nat→Prop) (K:Imm) (w1:World) (vs:List Value),A (pre ++ [x])→E.J (some pre) I K w1→(∀g,I g→(B0≤g∨Lb g)∧g < w1.heap.size)→(∀g,Lb g→I g)→(∀b o u,K b o=some u→w1.cell? ⟨b,o,none⟩=some u)→(∀b o,b < B0→¬Lb b→K b o=Φe b o)→(∀b o u,B0≤b→K b o=some u→I b) →
  X4z K→RepL K mu0 x vs→YieldAt (FW none) 0 P l vs.toArray w1 fun e w2=>∃b:Bool,e = .returned (.bool b)∧E.J (if b then some (pre ++ [x]) else none) I K w2∧Kept (fun g=>I g∨(g < B0∧¬Mix Φe g)) w1 w2∧(∀b o u,K b o=some u→w2.cell? ⟨b,o,none⟩=some u)
def Z5 (μ:Nat→Option Nat) (ids:List Nat) (g:Nat):Prop:=∃id∈ids,μ id=some g
def Xm9 (P:Program) (f:FuncId) (caps:List PV) (given:List (Nat×List PV)) (gm:List (Nat×PMap)) (A S:List (List PV)→Prop):Prop:=
 X28 P f=true∧∀(E:Xag) (l:Nat) (Φe:Imm) (μ:Nat→Option Nat) (ω:Nat→Option Who) (w:World) (vs:List Value),(∀b o u,Φe b o=some u→w.cell? ⟨b,o,none⟩=some u)→X4z Φe→RepL Φe μ caps vs →
  (∀x∈given,V2 (fun _=>True) Φe μ ω w x.1 x.2)→(∀x∈gm,Z6 (fun _=>True) Φe μ ω w x.1 x.2)→YOK P E l A Φe (Z5 μ (X0 given gm)) w.heap.size→E.J (some []) (Z5 μ (X0 given gm)) Φe w →
  Calls P f (#[.func (.yield l) #[] #[]] ++ vs.toArray) w fun e w' => ∃v κ K I,e = .returned v∧(∀xs,κ=some xs→S xs)∧E.J κ I K w'∧(∀g,Z5 μ (X0 given gm) g→I g)∧(∀b o u,K b o=some u→w'.cell? ⟨b,o,none⟩=some u) ∧
   (∀b o,b < w.heap.size→¬Z5 μ (X0 given gm) b→K b o=Φe b o)∧(∀b o u,w.heap.size≤b→K b o=some u→I b)∧X4z K∧(∀x∈given,V2 (fun _=>True) K μ ω w' x.1 x.2)∧(∀x∈gm,Z6 (fun _=>True) K μ ω w' x.1 x.2)
abbrev Xsy (P:Program) (f:FuncId) (caps:List PV) (A S:List (List PV)→Prop):Prop:=Xm9 P f caps [] [] A S
def RelJ (E:Xag) (Lb:Nat→Prop) (Φ0:Ent) (W:World) (M:Nat) (κ:Come) (σ:PS) (a:Act) (w:World):Prop:=
 ∃Φ1 W1 Φ μ ω I,Z4 Φ0 W Φ1 W1∧RelG Φ1 W1 M Φ μ ω σ a w∧E.J κ I (offI Φ ω) w∧(∀g,I g→(W.heap.size≤g∨Lb g)∧g < w.heap.size)∧(∀g p,ω g=some p→I g)∧(∀b o u,W.heap.size≤b→Φ b o=some u→I b)∧(∀b o,b < W.heap.size→¬Lb b→Φ b o=Φ0.imm b o)∧(∀m∈Φ1.marks,I m)∧(∀g,Lb g→I g)
end
section
open Go.RowKit
variable {E:Xag} {Lb:Nat→Prop} {Φ0:Ent} {W:World} {M:Nat} {κ:Come} {σ:PS} {a:Act} {w:World} {P:Program} {T:Tab}
theorem RelJ.go (h:RelJ E Lb Φ0 W M κ σ a w):∃Φf:Ent,Φf.round=Φ0.round∧Rel Φf w M σ a w∧∀Φ2 W2 σ' a' w',Z4 Φf w Φ2 W2→Rel Φ2 W2 M σ' a' w'→RelJ E Lb Φ0 W M κ σ' a' w':=by
 obtain ⟨Φ1,W1,Φ,μ,ω,I,hl,hg,hJ,h1,h2,h3,h4,h5,h6⟩:=h
 refine ⟨hg.freshE Φ1.mu,hl.round,⟨Φ,μ,ω,hg.fresh0 hg.gmu hg.kmu⟩,?_⟩
 rintro Φ2 W2 σ' a' w' hl2 ⟨Φ',μ',ω',k⟩
 have hs:=hg.since hl2 k
 obtain ⟨Φ3,W3,hl3,em,k3⟩:=hg.unfresh hl2 k
 have hWw:W.heap.size≤w.heap.size:=Nat.le_trans hl.kept.size hg.below.size
 have hww:w.heap.size≤w'.heap.size:=hs.kept.size
 have hωn:∀b,b < W.heap.size→¬Lb b→∀p,ω b≠some p:=fun b hb hnl p e=>by
  rcases (h1 b (h2 b p e)).1 with h' | h'
  ·omega
  ·exact hnl h'
 refine ⟨Φ3,W3,Φ',μ',ω',fun g=>I g∨(w.heap.size≤g∧g < w'.heap.size),hl.trans hl3,k3,?_,fun g hg' => ?_,fun g p e=>?_,fun b o u hb e=>?_,fun b o hb hnl=>?_,fun m hm=>?_,fun g hg' => .inl (h6 g hg')⟩
 ·refine E.step hJ (hs.kept.mono fun b hb=>⟨hb.1,fun p e=>hb.2 (h2 b p e)⟩) (fun g hg' => hg'.imp id (fun h=>h.1)) (fun b o u e hI=>?_) (fun b o u e=>k.imm b o u (X53.1 e).2)
  obtain ⟨e1,e2⟩:=X53.1 e
  have hb:=(h1 b hI).2
  refine X53.2 ⟨fun p ep=>?_,by rw [hs.imm b o hb e1];exact e2⟩
  rcases hs.own b p ep with ⟨q,hq⟩|hq
  ·exact e1 q hq
  ·omega
 ·rcases hg' with h' | h'
  ·exact ⟨(h1 g h').1,Nat.lt_of_lt_of_le (h1 g h').2 hww⟩
  ·exact ⟨.inl (Nat.le_trans hWw h'.1),h'.2⟩
 ·rcases hs.own g p e with ⟨q,hq⟩|hq
  ·exact .inl (h2 g q hq)
  ·exact .inr ⟨hq,k.lt g p e⟩
 ·by_cases hlt:b < w.heap.size
  ·left
   by_cases hω:∃p,ω b=some p
   ·obtain ⟨p,hp⟩:=hω;exact h2 b p hp
   ·rw [hs.imm b o hlt (fun p e=>hω ⟨p,e⟩)] at e
    exact h3 b o u hb e
  ·exact .inr ⟨Nat.le_of_not_lt hlt,RelG.fresh k e⟩
 ·rw [hs.imm b o (Nat.lt_of_lt_of_le hb hWw) (hωn b hb hnl)]
  exact h4 b o hb hnl
 ·rw [em] at hm
  obtain ⟨ms,e1,-,k1⟩:=hl2.marks
  rw [e1] at hm
  rcases List.mem_append.1 hm with hm|hm
  ·exact .inr ⟨(k1 m hm).1,Nat.lt_of_lt_of_le (k1 m hm).2.1.1 k.below.size⟩
  ·exact .inl (h5 m hm)
theorem RelJ.sub {σ' : PS} (h:RelJ E Lb Φ0 W M κ σ a w) (hs:Sub M σ σ'):RelJ E Lb Φ0 W M κ σ' a w:=by
 obtain ⟨Φf,-,hr,k⟩:=h.go
 exact k Φf w σ' a w (Z4.refl _ _) (hs _ _ _ _ hr)
theorem RelJ.ev (h:RelJ E Lb Φ0 W M κ σ a w) {c:Operand} {v:Value} (hc:pev σ c = .val v):a.eval c=v:=by
 obtain ⟨Φ1,W1,Φ,μ,ω,I,hl,hg,-⟩:=h
 have:=hg.ev c
 rw [hc] at this
 exact this.val_inv.1
def PWJ (E:Xag) (Lb:Nat→Prop) (Φ0:Ent) (W:World) (P:Program) (M:Nat) (c:Code) (Q:Exit→PS→Come→Prop) (σ:PS) (κ:Come):Prop:=
 ∀a w,RelJ E Lb Φ0 W M κ σ a w→c.wpIn (FW Φ0.round) 0 P (fun e a' w' => ∃σ' κ',Q e σ' κ'∧RelJ E Lb Φ0 W M κ' σ' a' w') a w
end
section
open Go.RowKit
variable {E:Xag} {Lb:Nat→Prop} {Φ0:Ent} {W:World} {M:Nat} {κ:Come} {σ:PS} {a:Act} {w:World} {P:Program} {T:Tab}
variable {Q:Exit→PS→Come→Prop}
theorem PWJ.of_pw {c:Code} (h:PW P M c (fun e σ' => Q e σ' κ) σ):PWJ E Lb Φ0 W P M c Q σ κ:=by
 intro a w hr
 obtain ⟨Φf,e1,hr',k⟩:=hr.go
 have:=h Φf w a w hr'
 rw [e1] at this
 exact wpIn_mono this fun e a' w' ⟨σ',Φ2,W2,hq,hl,hr2⟩=>⟨σ',κ,hq,k Φ2 W2 σ' a' w' hl hr2⟩
theorem PWJ.sub {c:Code} {σ' : PS} (h:PWJ E Lb Φ0 W P M c Q σ' κ) (hs:Sub M σ σ'):PWJ E Lb Φ0 W P M c Q σ κ:=fun a w hr=>h a w (hr.sub hs)
def Xys (E:Xag) (Lb:Nat→Prop) (Φ0:Ent) (W:World) (P:Program) (M:Nat) (y:Code) (Q:Exit→PS→Come→Prop):Exit→PS→Come→Prop
 | .normal,σ,κ=>PWJ E Lb Φ0 W P M y Q σ κ
 |e,σ,κ=>Q e σ κ
theorem PWJ.seq {x y:Code} (h:PWJ E Lb Φ0 W P M x (Xys E Lb Φ0 W P M y Q) σ κ):PWJ E Lb Φ0 W P M (.seq x y) Q σ κ:=by
 intro a w hr
 refine wpIn_seq (wpIn_mono (h a w hr) ?_)
 rintro e a' w' ⟨σ',κ',hq,hr'⟩
 cases e with
 |normal=>exact hq a' w' hr'
 |_=>exact ⟨σ',κ',hq,hr'⟩
def Xa2 (id:Nat) (Q:Exit→PS→Come→Prop):Exit→PS→Come→Prop
 | .exit i,σ,κ=>if i=id then Q .normal σ κ else Q (.exit i) σ κ
 |e,σ,κ=>Q e σ κ
theorem PWJ.block {id:Nat} {c:Code} (h:PWJ E Lb Φ0 W P M c (Xa2 id Q) σ κ):PWJ E Lb Φ0 W P M (.block id c) Q σ κ:=by
 intro a w hr
 refine wpIn_block (wpIn_mono (h a w hr) ?_)
 rintro e a' w' ⟨σ',κ',h1,h2⟩
 cases e with
 |exit i=>
  simp only [Xa2] at h1
  simp only [Exit.inBlock]
  split at h1
  ·rename_i e;simp only [e,if_true];exact ⟨σ',κ',h1,h2⟩
  ·rename_i e;simp only [e,if_false];exact ⟨σ',κ',h1,h2⟩
 |_=>exact ⟨σ',κ',h1,h2⟩
theorem PWJ.cond {c:Operand} {x y:Code} {b:Bool} (hc:pev σ c = .val (.bool b)) (h:PWJ E Lb Φ0 W P M (if b then x else y) Q σ κ):PWJ E Lb Φ0 W P M (.cond c x y) Q σ κ:=
 fun a w hr=>wpIn_cond (hr.ev hc) (h a w hr)
theorem PWJ.skip (h:Q .normal σ κ):PWJ E Lb Φ0 W P M .skip Q σ κ:=PWJ.of_pw (PW.skip h)
theorem PWJ.ret (h:Q .ret σ κ):PWJ E Lb Φ0 W P M .ret Q σ κ:=PWJ.of_pw (PW.ret h)
theorem PWJ.exit {i:Nat} (h:Q (.exit i) σ κ):PWJ E Lb Φ0 W P M (.exit i) Q σ κ:=PWJ.of_pw (PW.exit h)
def Xz5 {α:Type} (M:Nat) (st:α→PS) (kf:α→Come) (I:α→Prop) (m:α→Nat) (x:α) (Q:Exit→PS→Come→Prop):Exit→PS→Come→Prop
 | .normal,σ,κ=>∃y,I y∧m y < m x∧Sub M σ (st y)∧κ=kf y
 |e,σ,κ=>Q e σ κ
theorem PWJ.loop {α:Type} {c:Code} (st:α→PS) (kf:α→Come) (I:α→Prop) (m:α→Nat) (x0:α) (hi:I x0) (h0:Sub M σ (st x0)) (hk:κ=kf x0) (round:∀x,I x→PWJ E Lb Φ0 W P M c (Xz5 M st kf I m x Q) (st x) (kf x)):PWJ E Lb Φ0 W P M (.loop c) Q σ κ:=by
 intro a w hr b k cs hro hb hroom
 have key:∀n x a w,m x=n→I x→RelJ E Lb Φ0 W M (kf x) (st x) a w→∃e a' w',(∃σ' κ',Q e σ' κ'∧RelJ E Lb Φ0 W M κ' σ' a' w')∧ArrivesIn (Machine.fenced P (FW Φ0.round)) P (lone (b.atR a (.code c :: .inLoop c :: k)) cs w) b k cs e a' w':=by
  intro n
  induction n using Nat.strongRecOn with
  |_ n ih=>
   intro x a w hn hi' hI
   obtain ⟨e,a₁,w₁,⟨σ₁,κ₁,hq,hrel⟩,harr⟩:=round x hi' a w hI b (.inLoop c :: k) cs hro hb hroom
   cases e with
   |normal=>
    obtain ⟨y,hy,hlt,hsub,rfl⟩:=hq
    obtain ⟨e₂,a₂,w₂,hq₂,harr₂⟩:=ih (m y) (hn ▸ hlt) y a₁ w₁ rfl hy (hrel.sub hsub)
    exact ⟨e₂,a₂,w₂,hq₂, .of_steps (StepsIn.trans harr (.one (fenced_calm hb hroom rfl) stepR_inLoop)) harr₂⟩
   |exit id=>exact ⟨_,a₁,w₁,⟨σ₁,κ₁,hq,hrel⟩, .pass (x:=.inLoop c) rfl (fun _ _=>.inl S_) harr⟩
   |goto l=>exact ⟨_,a₁,w₁,⟨σ₁,κ₁,hq,hrel⟩, .pass (x:=.inLoop c) rfl (fun _ _=>.inl S_) harr⟩
   |ret=>exact ⟨_,a₁,w₁,⟨σ₁,κ₁,hq,hrel⟩, .pass (x:=.inLoop c) rfl (fun _ _=>.inl S_) harr⟩
   |panic ch=>exact ⟨_,a₁,w₁,⟨σ₁,κ₁,hq,hrel⟩, .pass (x:=.inLoop c) rfl (fun _ _=>.inl S_) harr⟩
   |outgrown=>exact ⟨_,a₁,w₁,⟨σ₁,κ₁,hq,hrel⟩, .pass (x:=.inLoop c) rfl (fun _ _=>.inl S_) harr⟩
 subst hk
 obtain ⟨e,a',w',hq,harr⟩:=key _ x0 a w rfl hi (hr.sub h0)
 exact ⟨e,a',w',hq, .of_steps (.one (fenced_calm hb hroom rfl) stepR_loop) harr⟩
structure YAtG (ops:Array Oper) (l:Nat) (A:List (List PV)→Prop) (M:Nat) (pre:List (List PV)) (x:List PV) (o:Oper) (d:Nat) (σ:PS):Prop where
 dst:o.dst=some d
 lt:d < M
 op:∃c y,o.op = .call c∧c.callee = .value y∧pev σ y = .val (.func (.yield l) #[] #[])∧c.args.toList.map (pev σ)=x
 guard:Xk ops σ o=some true
 low:∀p∈x,Low p
 here:A (pre ++ [x])
 box:∀id bs,σ.b id=some bs→∀c∈bs,c.ownB=false
 map:∀id es c,σ.m id=some (.map es c)→∀e∈es,e.2.2.ownB=false
structure YAt (l:Nat) (A:List (List PV)→Prop) (M:Nat) (pre:List (List PV)) (x:List PV) (o:Oper) (d:Nat) (σ:PS):Prop where
 dst:o.dst=some d
 lt:d < M
 op:∃c y,o.op = .call c∧c.callee = .value y∧pev σ y = .val (.func (.yield l) #[] #[])∧c.args.toList.map (pev σ)=x
 guard:o.guard=none
 low:∀p∈x,Low p
 here:A (pre ++ [x])
 box:∀id bs,σ.b id=some bs→∀c∈bs,c.ownB=false
 map:∀id es c,σ.m id=some (.map es c)→∀e∈es,e.2.2.ownB=false
theorem YAt.toG {ops:Array Oper} {l:Nat} {A:List (List PV)→Prop} {M:Nat} {pre:List (List PV)} {x:List PV} {o:Oper} {d:Nat} {σ:PS} (h:YAt l A M pre x o d σ):YAtG ops l A M pre x o d σ:=
 ⟨h.dst,h.lt,h.op,by simp [Xk,h.guard],h.low,h.here,h.box,h.map⟩
def X5b (σ:PS) (d:Nat) (b:Bool):PS:={ t:=upd (fun t=>(σ.t t).bare) d (.val (.bool b)),b:=σ.b,m:=σ.m }
theorem Xtq {l:Nat} {o:Oper} {c:Call} {y:Operand} (hop:o.op = .call c) (hcal:c.callee = .value y) (hv:a.eval y = .func (.yield l) #[] #[]):(execOp a.eval o).run P w=(Instr.yield l (c.args.toList.map a.eval).toArray).run P w:=by
 have e:(#[]:Array Value) ++ c.args.map a.eval=(c.args.toList.map a.eval).toArray:=by
  apply Array.ext'
  simp
 simp only [execOp,hop,resolve,hcal,hv,Deferred.ofValue,Sem.run_bind,Sem.run_pure,Result.andThen_ok,invoke]
 rw [e]
open Classical in
theorem Xcr {l d:Nat} {A:List (List PV)→Prop} {pre:List (List PV)} {x:List PV} {o:Oper} (hgiv:∀b,Old Φ0 W b→¬Mix Φ0.imm b) (hy:YOK P E l A Φ0.imm Lb W.heap.size) (hr:Φ0.round=none) (h:RelJ E Lb Φ0 W M (some pre) σ a w) {opsY:Array Oper} (ha:YAtG opsY l A M pre x o d σ)
  {K:Act→World→Prop} {Q' : Exit→Act→World→Prop} (hK:∀(b:Bool) a' w',RelJ E Lb Φ0 W M (if b then some (pre ++ [x]) else none) (X5b σ d b) a' w'→K a' w'):o.wpIn (FW Φ0.round) 0 P a w K Q':=by
 obtain ⟨Φ1,W1,Φ,μ,ω,I,hl,hg0,hJ,h1,h2,h3,h4,h5,h6⟩:=h
 obtain ⟨c,y,hop,hcal,hyv,hargs⟩:=ha.op
 -- the marks of one's own are given away
 let σ1:PS:={ σ with t:=fun t=>(σ.t t).bare }
 have hg1:RelG Φ1 W1 M Φ μ ω σ1 a w:=hg0.forget _ (fun t=>.inr (.inr (.inl rfl)))
 let ω1:Nat→Option Who:=fun g=>if ∃i,ω g=some (.box i)∧μ i=some g∧(σ.b i≠none∨σ.m i≠none) then ω g else none
 have hω1:∀i g,ω g=some (.box i)→μ i=some g→(σ.b i≠none∨σ.m i≠none)→ω1 g=some (.box i):=fun i g e1 e2 e3=>by
  show (if _ then _ else _)=_
  rw [if_pos ⟨i,e1,e2,e3⟩];exact e1
 have hω2:∀g p,ω1 g=some p→ω g=some p∧∃i,ω g=some (.box i)∧μ i=some g∧(σ.b i≠none∨σ.m i≠none):=by
  intro g p e
  have e' : (if ∃i,ω g=some (.box i)∧μ i=some g∧(σ.b i≠none∨σ.m i≠none) then ω g else none)=some p:=e
  split at e'
  ·rename_i hh;exact ⟨e',hh⟩
  ·cases e'
 have hno1:∀t n k cs E',σ1.t t≠.sl n k cs (some E'):=by
  intro t n k cs E' e
  have h':=PV.bare_own (σ.t t)
  have e' : (σ.t t).bare = .sl n k cs (some E'):=e
  rw [e'] at h'
  simp [PV.ownB] at h'
 have hg:RelG Φ1 W1 M Φ μ ω1 σ1 a w:=by
  refine ⟨hg1.below,hg1.defers,hg1.size,hg1.imm,hg1.old,hg1.tmps,fun t n k cs E' e=>absurd e (hno1 t n k cs E'),fun id bs e=>?_,hg1.gone,fun g p e=>hg1.lt g p (hω2 g p e).1,hg1.gmu,hg1.kmu,hg1.ext,fun id X e=>?_,fun g p e=>hg1.mine g p (hω2 g p e).1⟩
  ·obtain ⟨g,cur,Ty,k1,k2,k3,k4,k5,k6,k7⟩:=hg1.box id bs e
   refine ⟨g,cur,Ty,k1,k2,k3,hω1 id g k4 k1 (.inl (by have e' : σ.b id=some bs:=e;rw [e'];simp)),k5,k6,fun j c' hc=>?_⟩
   obtain ⟨u,r1,r2,r3,-⟩:=k7 j c' hc
   refine ⟨u,r1,r2,r3,fun n k cs E' e' => ?_⟩
   have:=ha.box id bs e c' (Xc hc)
   rw [e'] at this
   simp [PV.ownB] at this
  ·obtain ⟨g,k1,k2,k3,k4,k5⟩:=hg1.map id X e
   refine ⟨g,k1,k2,hω1 id g k3 k1 (.inr (by have e' : σ.m id=some X:=e;rw [e'];simp)),k4,?_⟩
   cases X with
   |map es clock=>
    obtain ⟨e0,ents,e1,e2,e3⟩:=k5
    refine ⟨e0,ents,e1,e2,fun j s k c' hj=>?_⟩
    obtain ⟨en,f1,f2,f3,f4,-⟩:=e3 j s k c' hj
    refine ⟨en,f1,f2,f3,f4,fun n kk cs E' ec=>?_⟩
    have:=ha.map id es clock e _ (Xc hj)
    simp only [ec] at this
    simp [PV.ownB] at this
   |iter=>exact k5
 have hoff:∀g p,ω1 g=some p→∀j,Φ g j=none:=by
  intro g p e j
  obtain ⟨-,i,e1,e2,e3⟩:=hω2 g p e
  rcases e3 with e3|e3
  ·obtain ⟨bs,hbs⟩:=Option.ne_none_iff_exists'.1 e3
   obtain ⟨g',cur,Ty,k1,k2,k3,k4,k5,-⟩:=hg1.box i bs hbs
   rw [e2] at k1;cases k1
   exact k5 j
  ·obtain ⟨X,hX⟩:=Option.ne_none_iff_exists'.1 e3
   obtain ⟨g',k1,k2,k3,k4,-⟩:=hg1.map i X hX
   rw [e2] at k1;cases k1
   exact k4 j
 have hoffI:offI Φ ω1=Φ:=by
  funext b o'
  by_cases hh:∃p,ω1 b=some p
  ·obtain ⟨p,hp⟩:=hh
   rw [hoff b p hp o']
   exact Zb ⟨p,hp⟩
  ·exact Zq fun p e=>hh ⟨p,e⟩
 have hJ1:E.J (some pre) I Φ w:=E.step hJ (Kept.refl _ _) (fun g hg' => .inl hg') (fun b o' u e _=>(X53.1 e).2) hg.imm
 have hrep:RepL Φ mu0 x (c.args.toList.map a.eval):=by
  refine ⟨by rw [←hargs];simp,fun j p u hp hu=>?_⟩
  have hl':=ha.low p (Xc hp)
  rw [←hargs,M_] at hp
  rw [M_] at hu
  cases hj:c.args.toList[j]? with
  |none=>rw [hj] at hp;cases hp
  |some z=>
   rw [hj] at hp hu
   cases hp;cases hu
   exact (hg0.ev z).low hl'
 have hglob:X4z Φ:=hg.glob
 obtain ⟨fn,tmps,assign,body,hrun,hround⟩:=hy pre x I Φ w _ ha.here hJ1 h1 h6 hg.imm h4 h3 hglob hrep
 have hvy:a.eval y = .func (.yield l) #[] #[]:=by
  have:=hg0.ev y
  rw [hyv] at this
  exact this.val_inv.1
 unfold Oper.wpIn
 refine ⟨fun _ _=>trivial,?_⟩
 rw [Oper.semAt_eq _ _ _ (fun c' e=>by rw [hop] at e;cases e),Xtq hop hcal hvy,hrun]
 refine ⟨(fun e=>by cases e),?_⟩
 rw [hr]
 refine hround.mono ?_
 rintro e w2 ⟨b,rfl,hJ2,hk2,him2⟩
 simp only
 have hWw:W.heap.size≤w.heap.size:=Nat.le_trans hl.kept.size hg.below.size
 have hg2:RelG Φ1 W1 M Φ μ ω1 σ1 a w2:=by
  refine hg.grow (hg.below.trans (hk2.mono fun g hg' => ?_)) him2 (fun _ _ _=>rfl) (fun _ _ _ e=>e) (fun g p e=>⟨hk2.block g (.inl (h2 g p (hω2 g p e).1)),fun _=>rfl⟩) hk2.size
  rcases hl.only g hg' with h' | h'
  ·exact .inr ⟨h'.1,hgiv g h'⟩
  ·exact .inl (h5 g h')
 have hg3:=hg2.put (d:=d) ha.lt (p:=.val (.bool b)) (v:=.bool b) (.val _ rfl) rfl
 rw [ha.dst]
 refine hK b _ _ ⟨Φ1,W1,Φ,μ,ω1,I,hl,hg3,by rw [hoffI];exact hJ2,fun g hg' => ⟨(h1 g hg').1,Nat.lt_of_lt_of_le (h1 g hg').2 hk2.size⟩,fun g p e=>h2 g p (hω2 g p e).1,h3,h4,h5,h6⟩
end
section
open Go.RowKit
variable {M:Nat} {P:Program} {T:Tab} {ops:List Oper} {base:Nat}
theorem Xpi {R:PS→Act→World→Prop} (hR:∀σ a w,R σ a w→∃Φ0 W,Rel Φ0 W M σ a w∧∀σ' a' w',Rel Φ0 W M σ' a' w'→R σ' a' w') (hT:T=Kf P) (hbase:base+ops.toArray.size≤1000000) (hall:∀(j:Nat) o,ops.toArray[j]? = some o→dstB M o=true) (hdraw:Xk6 ops=true) {Q:PS→Prop} {Q' : Exit→Act→World→Prop} (hQ:∀σ a w,Q σ→R σ a w→Q' .normal a w) {r:Option Nat} :
  ∀(fuel:Nat) (listed:Array Bool) (σ:PS) (a:Act) (w:World),Ke listed≤fuel→listed.size=ops.length→(∀(i:Nat) o,ops[i]? = some o→listed.getD i false=true→∀j,depO o j=true→listed.getD j false=true) →
   X5 P T ops.toArray base (okR ops base) ((Xa 0 ops).filter fun x => !listed.getD x.1 false) Q σ→R σ a w→wpAnyIn (FW r) 0 P .any ops.toArray Q' fuel listed a w:=by
 obtain ⟨hE,hI⟩:=X6d hdraw
 have hsz:∀listed:Array Bool,listed.size=ops.length→listed.size=ops.toArray.size:=fun l h=>by simpa using h
 have fin:∀(listed:Array Bool) (σ:PS) (a:Act) (w:World),listed.size=ops.length→(∀i,i < ops.length→listed.getD i false=true) →
   X5 P T ops.toArray base (okR ops base) ((Xa 0 ops).filter fun x => !listed.getD x.1 false) Q σ→R σ a w→Q' .normal a w:=by
  intro listed σ a w hs hl h hr
  have:((Xa 0 ops).filter fun x => !listed.getD x.1 false) = []:=by
   rw [List.filter_eq_nil_iff]
   intro x hx
   obtain ⟨-,h2⟩:=Yb 0 ops x hx
   have:x.1 < ops.length:=by have:=(List.getElem?_eq_some_iff.1 h2).1;omega
   simp [hl x.1 this]
  rw [this] at h
  exact hQ σ a w h hr
 have alls:∀listed:Array Bool,listed.size=ops.length→Region.ready .any ops.toArray listed = []→∀i,i < ops.length→listed.getD i false=true:=by
  intro listed hs hr i
  induction i using Nat.strongRecOn with
  |_ i ih=>
   intro hi
   have ho:ops.toArray[i]? = some ops[i]:=by simp [hi]
   cases hl:listed.getD i false with
   |true=>rfl
   |false=>
    have:i∈Region.ready .any ops.toArray listed:=(Ym (hsz listed hs)).2 ⟨ops[i],ho,hl,fun j hj=>by
     obtain ⟨e,he,hb,rfl⟩:=X2t.1 hj
     have:=hE i ops[i] (by simp [hi]) e he hb
     exact ih e.on this O_⟩
    rw [hr] at this;cases this
 intro fuel
 induction fuel with
 |zero=>
  intro listed σ a w hu hs hcl h hr
  have hl:=Ky (Nat.le_zero.1 hu)
  rw [hs] at hl
  refine ⟨?_,fin listed σ a w hs hl h hr⟩
  apply List.eq_nil_iff_forall_not_mem.2
  intro i hi
  obtain ⟨o,ho,h1,_⟩:=(Ym (hsz listed hs)).1 hi
  rw [hl i (by have:=(Array.getElem?_eq_some_iff.1 ho).1;simpa using this)] at h1
  cases h1
 |succ fuel ih=>
  intro listed σ a w hu hs hcl h hr
  refine ⟨fun hrd=>fin listed σ a w hs (alls listed hs hrd) h hr,fun i hi=>?_⟩
  obtain ⟨o,ho,h1,h2⟩:=(Ym (hsz listed hs)).1 hi
  have ho' : ops[i]? = some o:=by simpa using ho
  have hil:i < ops.length:=(List.getElem?_eq_some_iff.1 ho').1
  have hmem:(i,o)∈(Xa 0 ops).filter fun x => !listed.getD x.1 false:=by
   rw [List.mem_filter]
   refine ⟨?_,by simp [h1]⟩
   have:∀(l:List Oper) (k i:Nat) o,l[i]? = some o→(k+i,o)∈Xa k l:=by
    intro l
    induction l with
    |nil=>intro k i o h;simp at h
    |cons p l ih=>
     intro k i o h
     cases i with
     |zero=>simp at h;subst h;simp [Xa]
     |succ i=>
      simp at h
      have:=ih (k+1) i o h
      simp only [Xa,List.mem_cons]
      right
      rw [show k+(i+1)=k+1+i by omega];exact this
   have:=this ops 0 i o ho'
   rwa [Nat.zero_add] at this
  obtain ⟨pre,post,hL⟩:=List.append_of_mem hmem
  have hsort:((Xa 0 ops).filter fun x => !listed.getD x.1 false).Pairwise (fun a b=>a.1 < b.1):=(Kz 0 ops).filter _
  rw [hL] at h hsort
  rw [List.pairwise_append] at hsort
  obtain ⟨-,hs2,hs3⟩:=hsort
  rw [List.pairwise_cons] at hs2
  have hpre:∀y∈pre,y.1 < i:=fun y hy=>hs3 y hy (i,o) S_
  have hpost:∀y∈post,i < y.1:=fun y hy=>hs2.1 y hy
  have hprem:∀y∈pre,ops[y.1]? = some y.2∧listed.getD y.1 false=false:=by
   intro y hy
   have:y∈(Xa 0 ops).filter fun x => !listed.getD x.1 false:=by rw [hL];simp [hy]
   rw [List.mem_filter] at this
   obtain ⟨-,q⟩:=Yb 0 ops y this.1
   exact ⟨by simpa using q,by simpa using this.2⟩
  have hb:=X5.bubble (P:=P) (T:=T) (base:=base) (ok:=okR ops base) (cl:=clos ops) (ix:=i) (x:=o) (post:=post) (Q:=Q) pre σ (by
   intro y hy
   obtain ⟨q1,q2⟩:=hprem y hy
   have hlt:=hpre y hy
   have hnc:y.1∉(clos ops).getD i []:=fun hc=>by
    rw [V1 hE hcl i o ho' h2 y.1 hc] at q2;cases q2
   have hyl:y.1 < ops.length:=(List.getElem?_eq_some_iff.1 q1).1
   refine ⟨⟨by simpa using (hI i y.1 o y.2 ho' q1 hlt).resolve_left hnc,fun hs j hj1 hj2=>Xmm (ops:=ops) q1 ho' (by simpa using hs) j hj1 hj2⟩,O_,?_,?_⟩
   ·rw [okR,Bool.and_eq_false_iff];left
    simp only [okD,Bool.or_eq_false_iff,decide_eq_false_iff_not]
    refine ⟨⟨O_,O_⟩,?_⟩
    rw [Nat.add_sub_cancel_left]
    simpa using hnc
   ·rw [okR,Bool.and_eq_false_iff];left
    simp only [okD,Bool.or_eq_false_iff,decide_eq_false_iff_not]
    refine ⟨⟨O_,O_⟩,?_⟩
    rw [Nat.add_sub_cancel_left]
    have:i∉(clos ops).getD y.1 []:=fun hc=>by have:=X8w hE y.1 y.2 q1 i hc;omega
    simpa using this) h
  have hset:listed.getD i false=false:=h1
  have hlt:i < listed.size:=by rw [hs];exact hil
  have hrem:pre ++ post=(Xa 0 ops).filter fun x => !(listed.setIfInBounds i true).getD x.1 false:=by
   have e1:((Xa 0 ops).filter fun x => !(listed.setIfInBounds i true).getD x.1 false)=((Xa 0 ops).filter fun x => !listed.getD x.1 false).filter (fun x => !decide (x.1=i)):=by
    rw [List.filter_filter]
    congr 1
    funext x
    rw [Yk _ _ _ hlt]
    cases listed.getD x.1 false<;>simp
   rw [e1,hL,List.filter_append,List.filter_cons]
   have e2:pre.filter (fun x => !decide (x.1=i))=pre:=List.filter_eq_self.2 (fun y hy=>by have:=hpre y hy;simp;omega)
   have e3:post.filter (fun x => !decide (x.1=i))=post:=List.filter_eq_self.2 (fun y hy=>by have:=hpost y hy;simp;omega)
   rw [e2,e3]
   simp
  have hcl' : ∀(k:Nat) p,ops[k]? = some p→(listed.setIfInBounds i true).getD k false=true→∀j,depO p j=true→(listed.setIfInBounds i true).getD j false=true:=by
   intro k p hp hk j hj
   rw [Yk _ _ _ hlt] at hk ⊢
   simp only [Bool.or_eq_true,decide_eq_true_eq] at hk ⊢
   rcases hk with rfl|hk
   ·rw [ho'] at hp;cases hp;exact .inr (h2 j hj)
   ·exact .inr (hcl k p hp hk j hj)
  obtain ⟨Φ0,W,hrel,hbk⟩:=hR σ a w hr
  have hstep:=X1w (Φ0:=Φ0) (W:=W) (M:=M) hT hall (base:=base) hbase ho (K':=wpAnyIn (FW r) 0 P .any ops.toArray Q' fuel (listed.setIfInBounds i true)) (Q':=Q') (fun σ' a' w' hk hr' => ih (listed.setIfInBounds i true) σ' a' w' (by have:=V0 listed i hlt hset;omega) (by simpa using hs) hcl' (by rw [←hrem];exact hk) (hbk _ _ _ hr')) hb hrel
  unfold wpOpIn
  rw [ho]
  simp only
  split
  ·rename_i hw;rw [if_pos hw] at hstep;exact Vl (Vz (hall i o ho)) hstep
  ·rename_i hw;rw [if_neg hw] at hstep;exact ⟨fun _ _=>trivial,hstep⟩
theorem X8t {R:PS→Act→World→Prop} (hR:∀σ a w,R σ a w→∃Φ0 W,Rel Φ0 W M σ a w∧∀σ' a' w',Rel Φ0 W M σ' a' w'→R σ' a' w') (hT:T=Kf P) {ops:Array Oper} (hall:∀(j:Nat) o,ops[j]? = some o→dstB M o=true) {base:Nat} (hbase:base+ops.size≤1000000) {ok:Nat→Nat→Bool} {r:Option Nat} {Q:PS→Prop} {Q' : Exit→Act→World→Prop} {tail:List Nat} (hQ:∀σ a w,Q σ→R σ a w→wpOpsIn (FW r) 0 P ops Q' tail a w) :
  ∀(l:List (Nat×Oper)),(∀x∈l,ops[x.1]? = some x.2)→∀(σ:PS) (a:Act) (w:World),X5 P T ops base ok l Q σ→R σ a w→wpOpsIn (FW r) 0 P ops Q' (l.map (·.1) ++ tail) a w
 | [],_,σ,a,w,h,hr=>hQ σ a w h hr
 |(i,o) :: rest,hl,σ,a,w,h,hr=>by
  have hio:ops[i]? = some o:=hl (i,o) S_
  have ih:=X8t hR hT hall hbase (ok:=ok) (r:=r) hQ rest (fun x hx=>hl x (by simp [hx]))
  simp only [List.map_cons,List.cons_append,wpOpsIn,hio]
  obtain ⟨Φ0,W,hrel,hbk⟩:=hR σ a w hr
  have:=X1w hT hall hbase hio (K':=wpOpsIn (FW r) 0 P ops Q' (rest.map (·.1) ++ tail)) (Q':=Q') (fun σ' a' w' hk hr' => ih σ' a' w' hk (hbk _ _ _ hr')) h hrel
  split
  ·rename_i hw;rw [if_pos hw] at this;exact Vl (Vz (hall i o hio)) this
  ·rename_i hw;rw [if_neg hw] at this;exact ⟨fun _ _=>trivial,this⟩
theorem X2e:∀(k:Nat) (l:List Oper),(Xa k l).length=l.length
 |_,[]=>rfl
 |k,o :: r=>by simp [Xa,X2e (k+1) r]
end
section
open Go.RowKit
variable {E:Xag} {Lb:Nat→Prop} {Φ0:Ent} {W:World} {M:Nat} {κ:Come} {σ:PS} {a:Act} {w:World} {P:Program} {T:Tab} {Q:Exit→PS→Come→Prop}
theorem Xo2:∀σ a w,RelJ E Lb Φ0 W M κ σ a w→∃Φf W',Rel Φf W' M σ a w∧∀σ' a' w',Rel Φf W' M σ' a' w'→RelJ E Lb Φ0 W M κ σ' a' w':=by
 intro σ a w h
 obtain ⟨Φf,-,h1,h2⟩:=h.go
 exact ⟨Φf,w,h1,fun σ' a' w' h3=>h2 Φf w σ' a' w' (Z4.refl _ _) h3⟩
theorem RelJ.drew (h:RelJ E Lb Φ0 W M κ σ a w):RelJ E Lb Φ0 W M κ σ a w.drew:=by
 obtain ⟨Φf,-,⟨Φ,μ,ω,h1⟩,h2⟩:=h.go
 exact h2 Φf w σ a w.drew (Z4.refl _ _) ⟨Φ,μ,ω,h1.drew⟩
theorem PWJ.region (hT:T=Kf P) {l d:Nat} {A:List (List PV)→Prop} (hgiv:∀b,Old Φ0 W b→¬Mix Φ0.imm b) (hy:YOK P E l A Φ0.imm Lb W.heap.size) (hr:Φ0.round=none) {id:Nat} {ops:List Oper} (hall2:(ops.all (dstB M) && Nat.ble (1000 * id+ops.length) 1000000)=true)
  {before after:List (Nat×Oper)} {n0:Nat} {y:Oper} (hsp:Xa 0 ops=before ++ (n0,y) :: after) {pre:List (List PV)} {x:List PV} (hk:κ=some pre)
  (h:X5 P T ops.toArray (1000 * id) (fun _ _=>true) before (fun σ' => YAtG ops.toArray l A M pre x y d σ'∧∀b:Bool,X5 P T ops.toArray (1000 * id) (fun _ _=>true) after (fun σ'' => Q .normal σ'' (if b then some (pre ++ [x]) else none)) (X5b σ' d b)) σ) :
  PWJ E Lb Φ0 W P M (.region id ops.toArray false) Q σ κ:=by
 intro a w hrel
 subst hk
 have hall2':=hall2
 simp only [Bool.and_eq_true] at hall2'
 obtain ⟨hall,hb0⟩:=hall2'
 have hbase:=Nat.le_of_ble_eq_true hb0
 have hall' : ∀(j:Nat) o,ops.toArray[j]? = some o→dstB M o=true:=by
  intro j o hj
  exact List.all_eq_true.1 hall o (Xc (by simpa using hj))
 have hmem:∀z∈Xa 0 ops,ops.toArray[z.1]? = some z.2:=by
  intro z hz
  obtain ⟨-,h2⟩:=Yb 0 ops z hz
  simpa using h2
 refine wpIn_region ?_
 have hidx:List.range ops.toArray.size=before.map (·.1) ++ (n0 :: after.map (·.1)):=by
  rw [List.range_eq_range',List.size_toArray,←X15,hsp]
  simp
 rw [hidx]
 refine X8t (R:=RelJ E Lb Φ0 W M (some pre)) Xo2 hT hall' (by simpa using hbase) (fun σ' a' w' hq hr' => ?_) before (fun z hz=>hmem z (by rw [hsp];exact List.mem_append.2 (.inl hz))) σ a w h hrel
 obtain ⟨hya,haf⟩:=hq
 have hn0:ops.toArray[n0]? = some y:=hmem (n0,y) (by rw [hsp];exact List.mem_append.2 (.inr List.mem_cons_self))
 simp only [wpOpsIn,hn0]
 have hMd:∀(j d:Nat),(ops.toArray[j]?).bind (·.dst)=some d→d < M:=by
  intro j d' e
  obtain ⟨o',h1,h2⟩:=Option.bind_eq_some_iff.1 e
  exact (X5a (hall' j o' h1)).1 d' h2
 have hw:Region.wanted y (yielded ops.toArray a'.tmps)=true:=by
  obtain ⟨Φ1,W1,Φ,μ,ω,I,hl,hg0,-⟩:=hr'
  exact X32 hg0 hMd hya.guard
 rw [if_pos hw]
 refine Xcr hgiv hy hr hr' hya (fun b a2 w2 hr2=>?_)
 have:=X8t (R:=RelJ E Lb Φ0 W M (if b then some (pre ++ [x]) else none)) (r:=Φ0.round) (Q':=fun e a' w' => ∃σ' κ',Q e σ' κ'∧RelJ E Lb Φ0 W M κ' σ' a' w') (tail := []) Xo2 hT hall' (by simpa using hbase) (fun σ'' a3 w3 hq hr3=>⟨σ'',_,hq,hr3⟩) after (fun z hz=>hmem z (by rw [hsp];exact List.mem_append.2 (.inr (List.mem_cons_of_mem _ hz)))) _ a2 w2 (haf b) hr2
 simpa using this
end
end Go.Proofs.YtmciloafahkolaaGreatDoor
