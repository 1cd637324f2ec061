/- Out of: Pf, PwX2, PwIt, PwZ3, PwZ4, PwZ6, PwRn, PwOw, PwCut. -/
import Derived.StillTailTactics
import Derived.Deep.Cut
import Derived.RangeFuncCalls
import Derived.Test.YtoamkpgaaanafaaGreatM12
namespace Go.Proofs.YtoamkpgaaanafaaGreat
set_option linter.unusedSimpArgs false
set_option linter.unusedVariables false
set_option linter.unnecessarySimpa false
section
open Go.RowKit
def smallDefB (d:PDef):Bool:=decide (d.words.length≤60) && (decide (d.name.size≤100) && d.words.all (fun s=>decide (s.size≤100)))
def fewDefsB (s:PSchema):Bool:=(s.defs.take 21).all smallDefB && decide (s.defs.length≤20)
def schCellsP (s:PSchema):List PV := [pint s.dims,pint s.metric,pdefs s.defs]
theorem low_schCells (s:PSchema):∀c∈schCellsP s,Low c:=low_agg.1 ((low_pschema s).2 trivial)
theorem fewDefsB_few {s:PSchema} (h:fewDefsB s=true):FewS s:=by
 simp only [fewDefsB,Bool.and_eq_true,decide_eq_true_eq,List.all_eq_true] at h
 obtain ⟨h1,h2⟩:=h
 refine ⟨h2,fun d hd=>?_⟩
 rw [List.take_of_length_le (by omega)] at h1
 have:=h1 d hd
 simpa [smallDefB,FewD] using this
def okF (env:Nat→Option Nat) (ban:Nat→Nat→Bool) (ops:List Oper) (base i id:Nat):Bool:=okD (clos ops) base ops.length i id && ((match (ops[i]?).bind (tgtOf env base ops) with|some k=>Nat.beq id k|none=>true) && !ban i id)
def sepF (env:Nat→Option Nat) (ban:Nat→Nat→Bool) (base:Nat) (ops:List Oper) (iy ix:Nat) (y x:Oper):Bool:=
 (match tgtOf env base ops y with|some k => !okF env ban ops base ix k|none=>false) || (match tgtOf env base ops x with|some k => !okF env ban ops base iy k|none=>false)
theorem sepF_ok {env:Nat→Option Nat} {ban:Nat→Nat→Bool} {ops:List Oper} {base iy ix:Nat} {y x:Oper} (hy:ops[iy]? = some y) (hx:ops[ix]? = some x) (hs:sepF env ban base ops iy ix y x=true) (j:Nat) (h1:okF env ban ops base iy j=true) (h2:okF env ban ops base ix j=true):False:=by
 have res:∀(i:Nat) o k,ops[i]? = some o→okF env ban ops base i j=true→tgtOf env base ops o=some k→j=k:=by
  intro i o k ho h hr
  simp only [okF,ho,Option.bind_some,hr,Bool.and_eq_true] at h
  exact Nat.eq_of_beq_eq_true h.2.1
 simp only [sepF,Bool.or_eq_true] at hs
 rcases hs with hs|hs
 ·cases hr:tgtOf env base ops y with
  |none=>rw [hr] at hs;cases hs
  |some k=>
   rw [hr] at hs
   have e:=res iy y k hy h1 hr
   subst e
   simp [h2] at hs
 ·cases hr:tgtOf env base ops x with
  |none=>rw [hr] at hs;cases hs
  |some k=>
   rw [hr] at hs
   have e:=res ix x k hx h2 hr
   subst e
   simp [h1] at hs
def indF (env:Nat→Option Nat) (ban:Nat→Nat→Bool) (base:Nat) (ops:Array Oper) (iy ix:Nat) (y x:Oper):Bool:=
 (match y.dst,x.dst with|some a,some b=>a != b|_,_=>true) &&
 (match y.dst with|some a => !(tmpsOf x.op.operands.toList).contains a && !(guardT ops x).contains a|none=>true) &&
 (match x.dst with|some b => !(tmpsOf y.op.operands.toList).contains b && !(guardT ops y).contains b|none=>true) &&
 (takesB (headB ops y.dst) y).all (fun s => !(takesB (headB ops x.dst) x).contains s) &&
 (!(mapW (headB ops y.dst) y && mapU x) && !(mapW (headB ops x.dst) x && mapU y)) &&
 ((!(storeB y && usesBox x) && !(storeB x && usesBox y) && !(isStore (headB ops y.dst) y && isStore (headB ops x.dst) x)) || sepF env ban base ops.toList iy ix y x)
def drawF (env:Nat→Option Nat) (ban:Nat→Nat→Bool) (base:Nat) (ops:List Oper):Bool:=
 let cl:=clos ops
 (indexed 0 ops).all fun x=>x.2.after.toList.all (fun e => !Region.binds .any e || decide (e.on < x.1)) &&
  (indexed 0 ops).all fun y => !decide (y.1 < x.1) || (cl.getD x.1 []).contains y.1 || indF env ban base ops.toArray y.1 x.1 y.2 x.2
end
section
open Go.RowKit
variable {P:Program} {T:Tab} {σ:PS} {ops:Array Oper} {base:Nat} {ok:Nat→Nat→Bool}
theorem ind_partsF {env:Nat→Option Nat} {ban:Nat→Nat→Bool} {eb:Nat} {iy ix:Nat} {y x:Oper} (h:indF env ban eb ops iy ix y x=true):Ind ops (sepF env ban eb ops.toList iy ix y x=true) y x:=by
 simp only [indF,Bool.and_eq_true,Bool.not_eq_true',Bool.or_eq_true (_ && _) (sepF _ _ _ _ _ _ _ _)] at h
 obtain ⟨⟨⟨⟨⟨h1,h2⟩,h3⟩,h4⟩,h6⟩,h5⟩:=h
 refine ⟨?_,?_,?_,?_,?_,?_,?_,?_,?_⟩
 ·intro a b ea eb
  rw [ea,eb] at h1
  simpa using h1
 ·intro a ea
  rw [ea] at h2
  simpa using h2
 ·intro a ea
  rw [ea] at h3
  simpa using h3
 ·intro s hs
  have:=List.all_eq_true.1 h4 s hs
  simpa using this
 ·intro e1 e2
  rcases h5 with h5|h5
  ·simp only [e1,e2,Bool.and_eq_true,Bool.not_eq_true',Bool.and_true,Bool.true_and] at h5
   simp at h5
  ·exact h5
 ·intro e1 e2
  rcases h5 with h5|h5
  ·simp only [e1,e2,Bool.and_eq_true,Bool.not_eq_true',Bool.and_true,Bool.true_and] at h5
   simp at h5
  ·exact h5
 ·intro e1 e2
  rcases h5 with h5|h5
  ·simp only [e1,e2,Bool.and_eq_true,Bool.not_eq_true',Bool.and_true,Bool.true_and] at h5
   simp at h5
  ·exact h5
 ·intro e1 e2
  have:=h6.1
  rw [e1,e2] at this;cases this
 ·intro e1 e2
  have:=h6.2
  rw [e1,e2] at this;cases this
end
section
open Go.RowKit
theorem PWops.bubbleF {P:Program} {T:Tab} {ops:Array Oper} {base:Nat} {ok:Nat→Nat→Bool} {env:Nat→Option Nat} {ban:Nat→Nat→Bool} {eb:Nat} {ix:Nat} {x:Oper} {post:List (Nat×Oper)} {Q:PS→Prop} : ∀(pre:List (Nat×Oper)) (σ:PS),(∀y∈pre,(indF env ban eb ops y.1 ix y.2 x=true∧(sepF env ban eb ops.toList y.1 ix y.2 x=true→∀j,ok y.1 j=true→ok ix j=true→False))∧y.1≠ix∧ok ix (base+y.1)=false∧ok y.1 (base+ix)=false) →
  PWops P T ops base ok (pre ++ (ix,x) :: post) Q σ→PWops P T ops base ok ((ix,x) :: (pre ++ post)) Q σ
 | [],σ,_,h=>h
 |(iy,y) :: pre,σ,hall,h=>by
  obtain ⟨h1,h2,h3,h4⟩:=hall (iy,y) (by simp)
  have ih:=PWops.bubbleF (P:=P) (T:=T) (ops:=ops) (base:=base) (ok:=ok) (env:=env) (ban:=ban) (eb:=eb) (ix:=ix) (x:=x) (post:=post) (Q:=Q) pre
  have:PWop P T ops base ok iy y (PWop P T ops base ok ix x (PWops P T ops base ok (pre ++ post) Q)) σ:=
   PWop.mono (fun σ' h' => ih σ' (fun z hz=>hall z (by simp [hz])) h') h
  exact PWop.swap (ind_partsF h1.1) h1.2 h2 h3 h4 this
theorem draw_partsF {env:Nat→Option Nat} {ban:Nat→Nat→Bool} {eb:Nat} {ops:List Oper} (h:drawF env ban eb ops=true):(∀(i:Nat) o,ops[i]? = some o→∀e∈o.after.toList,Region.binds .any e=true→e.on < i) ∧
  (∀(i j:Nat) x y,ops[i]? = some x→ops[j]? = some y→j < i→j∈(clos ops).getD i []∨indF env ban eb ops.toArray j i y x=true):=by
 have hm:∀(i:Nat) o,ops[i]? = some o→(i,o)∈indexed 0 ops:=by
  have:∀(l:List Oper) (k i:Nat) o,l[i]? = some o→(k+i,o)∈indexed k l:=by
   intro l
   induction l with
   |nil=>intro k i o h;simp at h
   |cons p l ih=>
    intro k i o h
    cases i with
    |zero=>simp at h;subst h;simp [indexed]
    |succ i=>
     simp at h
     have:=ih (k+1) i o h
     simp only [indexed,List.mem_cons]
     right
     rw [show k+(i+1)=k+1+i by omega];exact this
  intro i o h
  have:=this ops 0 i o h
  rwa [Nat.zero_add] at this
 simp only [drawF] at h
 have h':=List.all_eq_true.1 h
 refine ⟨fun i o ho e he hb=>?_,fun i j x y hx hy hji=>?_⟩
 ·have:=h' _ (hm i o ho)
  simp only [Bool.and_eq_true] at this
  have:=List.all_eq_true.1 this.1 e he
  simpa [hb] using this
 ·have:=h' _ (hm i x hx)
  simp only [Bool.and_eq_true] at this
  have:=List.all_eq_true.1 this.2 _ (hm j y hy)
  simp only [hji,decide_true,Bool.not_true,Bool.false_or,Bool.or_eq_true,List.contains_iff_mem] at this
  exact this
end
section
open Go.RowKit
variable {Φ0:Ent} {W:World} {M:Nat} {P:Program} {T:Tab} {ops:List Oper} {base:Nat} {env:Nat→Option Nat} {ban:Nat→Nat→Bool}
theorem any_soundF (hT:T=tabOf P) (hbase:base+ops.toArray.size≤1000000) (hall:∀(j:Nat) o,ops.toArray[j]? = some o→dstB M o=true) (hdraw:drawF env ban base ops=true) {Q:PS→Prop} {Q' : Exit→Act→World→Prop} (hQ:∀σ a w,Q σ→Rel Φ0 W M σ a w→Q' .normal a w) {r:Option Nat} :
  ∀(fuel:Nat) (listed:Array Bool) (σ:PS) (a:Act) (w:World),unlisted listed≤fuel→listed.size=ops.length→(∀(i:Nat) o,ops[i]? = some o→listed.getD i false=true→∀j,depO o j=true→listed.getD j false=true) →
   PWops P T ops.toArray base (okF env ban ops base) ((indexed 0 ops).filter fun x => !listed.getD x.1 false) Q σ→Rel Φ0 W M σ a w→wpAnyIn (FW r) 0 P .any ops.toArray Q' fuel listed a w:=by
 obtain ⟨hE,hI⟩:=draw_partsF hdraw
 have hsz:∀listed:Array Bool,listed.size=ops.length→listed.size=ops.toArray.size:=fun l h=>by simpa using h
 have fin:∀(listed:Array Bool) (σ:PS) (a:Act) (w:World),listed.size=ops.length→(∀i,i < ops.length→listed.getD i false=true) →
   PWops P T ops.toArray base (okF env ban ops base) ((indexed 0 ops).filter fun x => !listed.getD x.1 false) Q σ→Rel Φ0 W M σ a w→Q' .normal a w:=by
  intro listed σ a w hs hl h hr
  have:((indexed 0 ops).filter fun x => !listed.getD x.1 false) = []:=by
   rw [List.filter_eq_nil_iff]
   intro x hx
   obtain ⟨-,h2⟩:=indexed_mem 0 ops x hx
   have:x.1 < ops.length:=by have:=(List.getElem?_eq_some_iff.1 h2).1;omega
   simp [hl x.1 this]
  rw [this] at h
  exact hQ σ a w h hr
 have alls:∀listed:Array Bool,listed.size=ops.length→Region.ready .any ops.toArray listed = []→∀i,i < ops.length→listed.getD i false=true:=by
  intro listed hs hr i
  induction i using Nat.strongRecOn with
  |_ i ih=>
   intro hi
   have ho:ops.toArray[i]? = some ops[i]:=by simp [hi]
   cases hl:listed.getD i false with
   |true=>rfl
   |false=>
    have:i∈Region.ready .any ops.toArray listed:=(mem_ready (hsz listed hs)).2 ⟨ops[i],ho,hl,fun j hj=>by
     obtain ⟨e,he,hb,rfl⟩:=depO_iff.1 hj
     have:=hE i ops[i] (by simp [hi]) e he hb
     exact ih e.on this (by omega)⟩
    rw [hr] at this;cases this
 intro fuel
 induction fuel with
 |zero=>
  intro listed σ a w hu hs hcl h hr
  have hl:=unlisted_zero (Nat.le_zero.1 hu)
  rw [hs] at hl
  refine ⟨?_,fin listed σ a w hs hl h hr⟩
  apply List.eq_nil_iff_forall_not_mem.2
  intro i hi
  obtain ⟨o,ho,h1,_⟩:=(mem_ready (hsz listed hs)).1 hi
  rw [hl i (by have:=(Array.getElem?_eq_some_iff.1 ho).1;simpa using this)] at h1
  cases h1
 |succ fuel ih=>
  intro listed σ a w hu hs hcl h hr
  refine ⟨fun hrd=>fin listed σ a w hs (alls listed hs hrd) h hr,fun i hi=>?_⟩
  obtain ⟨o,ho,h1,h2⟩:=(mem_ready (hsz listed hs)).1 hi
  have ho' : ops[i]? = some o:=by simpa using ho
  have hil:i < ops.length:=(List.getElem?_eq_some_iff.1 ho').1
  have hmem:(i,o)∈(indexed 0 ops).filter fun x => !listed.getD x.1 false:=by
   rw [List.mem_filter]
   refine ⟨?_,by simp [h1]⟩
   have:∀(l:List Oper) (k i:Nat) o,l[i]? = some o→(k+i,o)∈indexed k l:=by
    intro l
    induction l with
    |nil=>intro k i o h;simp at h
    |cons p l ih=>
     intro k i o h
     cases i with
     |zero=>simp at h;subst h;simp [indexed]
     |succ i=>
      simp at h
      have:=ih (k+1) i o h
      simp only [indexed,List.mem_cons]
      right
      rw [show k+(i+1)=k+1+i by omega];exact this
   have:=this ops 0 i o ho'
   rwa [Nat.zero_add] at this
  obtain ⟨pre,post,hL⟩:=List.append_of_mem hmem
  have hsort:((indexed 0 ops).filter fun x => !listed.getD x.1 false).Pairwise (fun a b=>a.1 < b.1):=(indexed_sorted 0 ops).filter _
  rw [hL] at h hsort
  rw [List.pairwise_append] at hsort
  obtain ⟨-,hs2,hs3⟩:=hsort
  rw [List.pairwise_cons] at hs2
  have hpre:∀y∈pre,y.1 < i:=fun y hy=>hs3 y hy (i,o) (by simp)
  have hpost:∀y∈post,i < y.1:=fun y hy=>hs2.1 y hy
  have hprem:∀y∈pre,ops[y.1]? = some y.2∧listed.getD y.1 false=false:=by
   intro y hy
   have:y∈(indexed 0 ops).filter fun x => !listed.getD x.1 false:=by rw [hL];simp [hy]
   rw [List.mem_filter] at this
   obtain ⟨-,q⟩:=indexed_mem 0 ops y this.1
   exact ⟨by simpa using q,by simpa using this.2⟩
  have hb:=PWops.bubbleF (P:=P) (T:=T) (base:=base) (ok:=okF env ban ops base) (env:=env) (ban:=ban) (eb:=base) (ix:=i) (x:=o) (post:=post) (Q:=Q) pre σ (by
   intro y hy
   obtain ⟨q1,q2⟩:=hprem y hy
   have hlt:=hpre y hy
   have hnc:y.1∉(clos ops).getD i []:=fun hc=>by
    rw [clos_listed hE hcl i o ho' h2 y.1 hc] at q2;cases q2
   have hyl:y.1 < ops.length:=(List.getElem?_eq_some_iff.1 q1).1
   refine ⟨⟨by simpa using (hI i y.1 o y.2 ho' q1 hlt).resolve_left hnc,fun hs j hj1 hj2=>sepF_ok (ops:=ops) q1 ho' (by simpa using hs) j hj1 hj2⟩,by omega,?_,?_⟩
   ·rw [okF,Bool.and_eq_false_iff];left
    simp only [okD,Bool.or_eq_false_iff,decide_eq_false_iff_not]
    refine ⟨⟨by omega,by omega⟩,?_⟩
    rw [Nat.add_sub_cancel_left]
    simpa using hnc
   ·rw [okF,Bool.and_eq_false_iff];left
    simp only [okD,Bool.or_eq_false_iff,decide_eq_false_iff_not]
    refine ⟨⟨by omega,by omega⟩,?_⟩
    rw [Nat.add_sub_cancel_left]
    have:i∉(clos ops).getD y.1 []:=fun hc=>by have:=clos_lt hE y.1 y.2 q1 i hc;omega
    simpa using this) h
  have hset:listed.getD i false=false:=h1
  have hlt:i < listed.size:=by rw [hs];exact hil
  have hrem:pre ++ post=(indexed 0 ops).filter fun x => !(listed.setIfInBounds i true).getD x.1 false:=by
   have e1:((indexed 0 ops).filter fun x => !(listed.setIfInBounds i true).getD x.1 false)=((indexed 0 ops).filter fun x => !listed.getD x.1 false).filter (fun x => !decide (x.1=i)):=by
    rw [List.filter_filter]
    congr 1
    funext x
    rw [getD_set _ _ _ hlt]
    cases listed.getD x.1 false<;>simp
   rw [e1,hL,List.filter_append,List.filter_cons]
   have e2:pre.filter (fun x => !decide (x.1=i))=pre:=List.filter_eq_self.2 (fun y hy=>by have:=hpre y hy;simp;omega)
   have e3:post.filter (fun x => !decide (x.1=i))=post:=List.filter_eq_self.2 (fun y hy=>by have:=hpost y hy;simp;omega)
   rw [e2,e3]
   simp
  have hcl' : ∀(k:Nat) p,ops[k]? = some p→(listed.setIfInBounds i true).getD k false=true→∀j,depO p j=true→(listed.setIfInBounds i true).getD j false=true:=by
   intro k p hp hk j hj
   rw [getD_set _ _ _ hlt] at hk ⊢
   simp only [Bool.or_eq_true,decide_eq_true_eq] at hk ⊢
   rcases hk with rfl|hk
   ·rw [ho'] at hp;cases hp;exact .inr (h2 j hj)
   ·exact .inr (hcl k p hp hk j hj)
  have hstep:=op_sound (Φ0:=Φ0) (W:=W) (M:=M) hT hall (base:=base) hbase ho (K':=wpAnyIn (FW r) 0 P .any ops.toArray Q' fuel (listed.setIfInBounds i true)) (Q':=Q') (fun σ' a' w' hk hr' => ih (listed.setIfInBounds i true) σ' a' w' (by have:=unlisted_set listed i hlt hset;omega) (by simpa using hs) hcl' (by rw [←hrem];exact hk) hr') hb hr
  unfold wpOpIn
  rw [ho]
  simp only
  split
  ·rename_i hw;rw [if_pos hw] at hstep;exact wpIn_of_wp (dstB_defer (hall i o ho)) hstep
  ·rename_i hw;rw [if_neg hw] at hstep;exact ⟨fun _ _=>trivial,hstep⟩
theorem PW.drawF (ban:Nat→Nat→Bool) {Q:Exit→PS→Prop} {σ:PS} (hT:T=tabOf P) (hm:P.follows .mixedOrders=true) {id:Nat} (hall2:(ops.all (dstB M) && Nat.ble (1000 * id+ops.length) 1000000)=true) (hd:drawF (envOf σ) ban (1000 * id) ops=true)
  (h:PWops P T ops.toArray (1000 * id) (okF (envOf σ) ban ops (1000 * id)) (indexed 0 ops) (Q .normal) σ):PW P M (.region id ops.toArray true) Q σ:=by
 intro Φ0 W a w hr
 have hall2':=hall2
 simp only [Bool.and_eq_true] at hall2'
 obtain ⟨hall,hb0⟩:=hall2'
 have hbase:=Nat.le_of_ble_eq_true hb0
 refine wpIn_region_any hm ?_
 obtain ⟨Φ,μ,ω,hg⟩:=hr
 refine any_soundF (Φ0:=Φ0) (W:=W) (M:=M) (base:=1000 * id) (env:=envOf σ) (ban:=ban) (Q:=Q .normal) hT (by simpa using hbase) (by
  intro j o hj
  exact List.all_eq_true.1 hall o (mem_of_get (by simpa using hj))) hd (fun σ a w hq hrel=>⟨_,Φ0,W,hq,Later.refl _ _,hrel⟩) _ _ σ a _ ?_ (by simp) ?_ ?_ ⟨Φ,μ,ω,hg.drew⟩
 ·unfold unlisted
  exact Nat.le_trans List.countP_le_length (by simp)
 ·intro i o ho hl
  simp [Array.getD_eq_getD_getElem?,Array.getElem?_replicate] at hl
  split at hl<;>simp_all
 ·have:((indexed 0 ops).filter fun x => !(Array.replicate ops.toArray.size false).getD x.1 false)=indexed 0 ops:=by
   rw [List.filter_eq_self]
   intro x _
   simp [Array.getD_eq_getD_getElem?,Array.getElem?_replicate]
   split<;>rfl
  rw [this]
  exact h
end
section
open Go.RowKit
open Classical in
noncomputable def freshI (I0 Φ:Imm) (ω:Nat→Option Who):Imm:=fun b o=>if ∃p,ω b=some p then I0 b o else Φ b o
theorem freshI_eq {I0 Φ:Imm} {ω:Nat→Option Who} {b o:Nat} (h:∀p,ω b≠some p):freshI I0 Φ ω b o=Φ b o:=by
 unfold freshI
 rw [if_neg]
 rintro ⟨p,e⟩
 exact h p e
theorem freshI_own {I0 Φ:Imm} {ω:Nat→Option Who} {b o:Nat} (h:∃p,ω b=some p):freshI I0 Φ ω b o=I0 b o:=by
 unfold freshI
 rw [if_pos h]
end
section
open Go.RowKit
variable {Φ0:Ent} {W:World} {M:Nat} {Φ:Imm} {μ:Nat→Option Nat} {ω:Nat→Option Who} {σ:PS} {a:Act} {w:World} {P:Program}
theorem RelG.freshSub (h:RelG Φ0 W M Φ μ ω σ a w) {b o:Nat} {u:Value} (e:freshI Φ0.imm Φ ω b o=some u):Φ b o=some u:=by
 unfold freshI at e
 split at e
 ·exact (h.ext b o u e).1
 ·exact e
theorem RelG.freshGlob (h:RelG Φ0 W M Φ μ ω σ a w):GlobOK (freshI Φ0.imm Φ ω):=by
 intro x hx j z e
 unfold freshI
 split
 ·exact Φ0.glob x hx j z e
 ·exact h.glob x hx j z e
theorem RelG.freshMix (h:RelG Φ0 W M Φ μ ω σ a w) {g:Nat} (hg:∃p,ω g=some p):Mix (freshI Φ0.imm Φ ω) g:=by
 have hm:Mix Φ0.imm g:=by
  obtain ⟨p,e⟩:=hg
  rcases h.mine g p e with h' | h'
  ·intro o u e'; have:=(h.ext g o u e').2;omega
  ·exact Φ0.fl g h'
 intro o u e
 rw [freshI_own hg] at e
 obtain ⟨o',u',e1,e2⟩:=hm o u e
 exact ⟨o',u',by rw [freshI_own hg];exact e1,e2⟩
noncomputable def RelG.freshE (h:RelG Φ0 W M Φ μ ω σ a w) (mu:Nat→Option Nat):Ent:=
 ⟨freshI Φ0.imm Φ ω,fun g=>∃p,ω g=some p,mu,h.freshGlob,fun _ hg=>h.freshMix hg,Φ0.marks,Φ0.round⟩
theorem RelG.rebase (h:RelG Φ0 W M Φ μ ω σ a w) {Φ1:Ent} {W1:World} (hb:Kept (Old Φ1 W1) W1 w) (hd:a.defers=Φ1.marks.map collD∧RndOK Φ1 W1) (ho:∀b o,Old Φ1 W1 b→Φ b o=Φ1.imm b o)
  (hg:∀id g,Φ1.mu id=some g→1000000≤id) (hk:∀id g,Φ1.mu id=some g→(σ.b id≠none∨σ.m id≠none)→μ id=some g) (he:∀b o u,Φ1.imm b o=some u→Φ b o=some u∧b < W1.heap.size) (hm:∀g p,ω g=some p→Mine Φ1 W1 g):RelG Φ1 W1 M Φ μ ω σ a w:=
 ⟨hb,hd,h.size,h.imm,ho,h.tmps,fun t n k cs E e=>(h.own t n k cs E e).inB (fun g e=>hm g _ e),fun id bs e=>(h.box id bs e).inB (fun g q _ e=>hm g q e),h.gone,h.lt,hg,hk,he,fun id X e=>(h.map id X e).inB (fun g q _ e=>hm g q e),hm⟩
theorem RelG.noOld (h:RelG Φ0 W M Φ μ ω σ a w) {b:Nat} (hb:Old Φ0 W b):∀p,ω b≠some p:=fun p e=>(h.mine b p e).ne hb rfl
theorem RelG.rnd (h:RelG Φ0 W M Φ μ ω σ a w) {l:Nat} (e:Φ0.round=some l):l < w.heap.size∧(∀p,ω l≠some p)∧∃r,w.heap[l]? = some (.loop r):=by
 obtain ⟨h1,r,h2⟩:=h.defers.2 l e
 exact ⟨Nat.lt_of_lt_of_le h1.1 h.below.size,h.noOld h1,r,(h.below.block l h1).trans h2⟩
theorem RelG.fresh0 (h:RelG Φ0 W M Φ μ ω σ a w) {mu:Nat→Option Nat} (hg:∀id g,mu id=some g→1000000≤id) (hk:∀id g,mu id=some g→(σ.b id≠none∨σ.m id≠none)→μ id=some g):RelG (h.freshE mu) w M Φ μ ω σ a w:=by
 refine h.rebase (Kept.refl _ _) ⟨h.defers.1,fun l e=>?_⟩ (fun b o hb=>(freshI_eq fun p e=>hb.2 ⟨p,e⟩).symm) hg hk (fun b o u e=>⟨h.freshSub e,RelG.fresh h (h.freshSub e)⟩) (fun g p e=>.inr ⟨p,e⟩)
 obtain ⟨h1,h2,h3⟩:=h.rnd e
 exact ⟨⟨h1,fun ⟨p,hp⟩=>h2 p hp⟩,h3⟩
structure Since (Φ:Imm) (ω:Nat→Option Who) (w:World) (Φ' : Imm) (ω' : Nat→Option Who) (w' : World):Prop where
 kept:Kept (fun b=>b < w.heap.size∧∀p,ω b≠some p) w w'
 own:∀g p,ω' g=some p→(∃q,ω g=some q)∨w.heap.size≤g
 imm:∀b o,b < w.heap.size→(∀p,ω b≠some p)→Φ' b o=Φ b o
theorem RelG.since (h:RelG Φ0 W M Φ μ ω σ a w) {mu:Nat→Option Nat} {Φ2:Ent} {W2:World} (hl:Later (h.freshE mu) w Φ2 W2) {M' : Nat} {Φ' : Imm} {μ' : Nat→Option Nat} {ω' : Nat→Option Who} {σ' : PS} {a' : Act} {w' : World} (k:RelG Φ2 W2 M' Φ' μ' ω' σ' a' w'):Since Φ ω w Φ' ω' w':=by
 have hold:∀b,b < w.heap.size→(∀p,ω b≠some p)→Old (h.freshE mu) w b:=fun b h1 h2=>⟨h1,fun ⟨p,e⟩=>h2 p e⟩
 refine ⟨(hl.kept.trans (k.below.mono hl.old)).mono fun b hb=>hold b hb.1 hb.2,fun g p e=>?_,fun b o h1 h2=>?_⟩
 ·rcases hl.mine g (k.mine g p e) with h|h
  ·exact .inr h
  ·exact .inl h
 ·rw [k.old b o (hl.old b (hold b h1 h2)),hl.imm]
  exact freshI_eq h2
theorem RelG.unfresh (h:RelG Φ0 W M Φ μ ω σ a w) {Φ2:Ent} {W2:World} (hl:Later (h.freshE Φ0.mu) w Φ2 W2) {Φ' : Imm} {μ' : Nat→Option Nat} {ω' : Nat→Option Who} {σ' : PS} {a' : Act} {w' : World} (k:RelG Φ2 W2 M Φ' μ' ω' σ' a' w') :
  ∃Φ3 W3,Later Φ0 W Φ3 W3∧Φ3.marks=Φ2.marks∧RelG Φ3 W3 M Φ' μ' ω' σ' a' w':=by
 have hs:=h.since hl k
 obtain ⟨ms,e1,n1,h1⟩:=hl.marks
 have hsz:w.heap.size≤W2.heap.size:=hl.kept.size
 have hWw:=h.below.size
 have hext:∀b o u,Φ0.imm b o=some u→b < W.heap.size:=fun b o u e=>(h.ext b o u e).2
 have hmine2:∀g,Mine Φ2 W2 g→Mine Φ0 W g:=fun g hg=>by
  rcases hl.mine g hg with h' | ⟨p,h'⟩
  ·exact .inl (Nat.le_trans hWw h')
  ·exact h.mine g p h'
 let Φ3:Ent:=⟨Φ0.imm,fun g=>Mine Φ0 W g∧g < W2.heap.size∧g∉ms,Φ0.mu,Φ0.glob,fun g hg=>by
  rcases hg.1 with h' | h'
  ·intro o u e;have:=hext g o u e;omega
  ·exact Φ0.fl g h',Φ2.marks,Φ0.round⟩
 have holdc:∀b,Old Φ3 W2 b→Old Φ0 W b∨b∈ms:=by
  rintro b ⟨hb1,hb2⟩
  by_cases hm:b∈ms
  ·exact .inr hm
  ·left
   by_cases hmi:Mine Φ0 W b
   ·exact absurd ⟨hmi,hb1,hm⟩ hb2
   ·exact ⟨Nat.lt_of_not_le fun hh=>hmi (.inl hh),fun hh=>hmi (.inr hh)⟩
 have hold0:∀b,Old Φ0 W b→b < w.heap.size∧∀p,ω b≠some p:=fun b hb=>⟨Nat.lt_of_lt_of_le hb.1 hWw,h.noOld hb⟩
 have hold3:∀b,Old Φ0 W b→Old Φ3 W2 b:=fun b hb=>⟨Nat.lt_of_lt_of_le (hold0 b hb).1 hsz,fun hh=>hh.1.ne hb rfl⟩
 have holdf:∀b,Old Φ0 W b→Old Φ2 W2 b:=fun b hb=>hl.old b ⟨(hold0 b hb).1,fun ⟨p,e⟩=>(hold0 b hb).2 p e⟩
 have hkW2:Kept (Old Φ0 W) W W2:=h.below.trans (hl.kept.mono fun b hb=>⟨(hold0 b hb).1,fun ⟨p,e⟩=>(hold0 b hb).2 p e⟩)
 have hms:∀m∈ms,Old Φ3 W2 m:=fun m hm=>⟨(h1 m hm).2.1.1,fun hh=>hh.2.2 hm⟩
 have hlat:Later Φ0 W Φ3 W2:=by
  refine ⟨rfl,rfl,rfl,hkW2,hold3,fun g hg=>?_,fun b hb=>(holdc b hb).imp id (fun h=>by show b∈Φ2.marks;rw [e1];exact List.mem_append.2 (.inl h)),fun _=>hext,ms,e1,n1,fun m hm=>⟨Nat.le_trans hWw (h1 m hm).1,hms m hm,(h1 m hm).2.2⟩⟩
  rcases hg with h' | h'
  ·exact .inl (Nat.le_trans hkW2.size h')
  ·exact h'.1
 refine ⟨Φ3,W2,hlat,rfl,k.rebase (k.below.mono fun b hb=>?_) ⟨k.defers.1,fun l e=>?_⟩ (fun b o hb=>?_) h.gmu (fun i g e hi=>?_) (fun b o u e=>?_) (fun g p e=>?_)⟩
 ·rcases holdc b hb with h' | h'
  ·exact holdf b h'
  ·exact (h1 b h').2.1
 ·obtain ⟨q1,r,q2⟩:=h.defers.2 l e
  exact ⟨hold3 l q1,r,(hkW2.block l q1).trans q2⟩
 ·rcases holdc b hb with h' | h'
  ·rw [hs.imm b o (hold0 b h').1 (hold0 b h').2]
   exact h.old b o h'
  ·have e1:Φ' b o=none:=by
    cases hh:Φ' b o with
    |none=>rfl
    |some u=>
     have:=k.imm b o u hh
     have hd:=(k.below.block b (h1 b h').2.1).trans (h1 b h').2.2
     simp only [World.cell?,hd] at this
     cases this
   have e2:Φ0.imm b o=none:=by
    cases hh:Φ0.imm b o with
    |none=>rfl
    |some u=>have:=hext b o u hh;have:=(h1 b h').1;omega
   show _=Φ0.imm b o
   rw [e1,e2]
 ·exact k.kmu i g (by rw [hl.mu];exact e) hi
 ·have h3:=h.ext b o u e
  refine ⟨?_,Nat.lt_of_lt_of_le h3.2 hkW2.size⟩
  by_cases hω:∃p,ω b=some p
  ·refine (k.ext b o u ?_).1
   rw [hl.imm]
   exact (freshI_own hω).trans e
  ·rw [hs.imm b o (Nat.lt_of_lt_of_le h3.2 hWw) (fun p e=>hω ⟨p,e⟩)]
   exact h3.1
 ·have hm:=k.mine g p e
  by_cases hlt:g < W2.heap.size
  ·refine .inr ⟨hmine2 g hm,hlt,fun hh=>?_⟩
   exact hm.ne (h1 g hh).2.1 rfl
  ·exact .inl (Nat.le_of_not_lt hlt)
end
section
open Go.RowKit
variable {Φ0:Ent} {W:World} {M:Nat} {Φ:Imm} {μ:Nat→Option Nat} {ω:Nat→Option Who} {σ:PS} {a:Act} {w:World} {P:Program} {T:Tab}
theorem RelG.boxTake (h:RelG Φ0 W M Φ μ ω σ a w) {id:Nat} {bs cs r:List PV} (hb:σ.b id=some bs) (hc:bs=cs ++ r):RelG Φ0 W M Φ μ ω { σ with b:=upd σ.b id (some cs) } a w:=by
 subst hc
 refine { h with box:=fun i bs' e=>?_,gone:=fun i e em=>?_,kmu:=fun i g e hi=>?_ }
 ·by_cases hi:i=id
  ·subst hi
   simp only [upd_if,if_true] at e
   cases e
   obtain ⟨g,cur,T,h1,h2,h3,h4,h5,h6,h7⟩:=h.box i _ hb
   refine ⟨g,cur,T,h1,h2,h3,h4,h5,by simp at h6;omega,fun j c hc=>h7 j c ?_⟩
   rw [List.getElem?_append_left (List.getElem?_eq_some_iff.1 hc).1];exact hc
  ·simp only [upd_if,if_neg hi] at e;exact h.box i bs' e
 ·by_cases hi:i=id
  ·subst hi;simp only [upd_if,if_true] at e;cases e
  ·simp only [upd_if,if_neg hi] at e;exact h.gone i e em
 ·by_cases hi' : i=id
  ·subst hi'; exact h.kmu i g e (.inl (by rw [hb];simp))
  ·simp only [upd_if,if_neg hi'] at hi;exact h.kmu i g e hi
theorem RelG.appendBox (h:RelG Φ0 W M Φ μ ω σ a w) {s d id:Nat} (hlow:id < 1000000) (hid:σ.b id=none) (hmid:σ.m id=none) (hd:d < M) {m k cap g:Nat} {ds:List PV} {e:TypeId} {cur:Array Value} {news:List Value}
  (hg:w.heap[g]? = some (.cells cur e (0,0))) (hroom:m≤cap) (hcur:cur.size=cap * k) (hω:ω g=some (.tmp s)) (hfree:∀j,Φ g j=none) (hB:Mine Φ0 W g) (hcap:cap≤maxLen)
  (hds:ds.length=m * k) (hn:RepL Φ μ ds news) (hone:∀u∈news,u.oneCell' = true) (hno:∀c∈ds,c.ownB=false) :
  Rel Φ0 W M { t:=upd (upd σ.t s (σ.t s).bare) d (.msl id 0 m k),b:=upd σ.b id (some ds),m:=σ.m } (a.put (some d) (.slice (some ⟨g,0,none⟩) m cap)) (w.setRow g (news ++ cur.toList.drop news.length).toArray):=by
 have hd' : d < a.tmps.size:=by rw [h.size];exact hd
 have hlt:g < w.heap.size:=(Array.getElem?_eq_some_iff.1 hg).1
 have hmk:m * k≤cap * k:=Nat.mul_le_mul_right _ hroom
 have hnl:=hn.1
 have hμ:∀i g',μ i=some g'→upd μ id (some g) i=some g':=by
  intro i g' e'
  simp only [upd_if]
  rw [if_neg (by rintro rfl;rw [h.gone _ hid hmid] at e'; cases e')];exact e'
 have hω' : ∀g' p,ω g' = some p→p≠.tmp s→upd ω g (some (.box id)) g' = some p:=by
  intro g' p eg hp
  simp only [upd_if]
  rw [if_neg (by rintro rfl;rw [hω] at eg;cases eg;exact hp rfl)]
  exact eg
 have hstep:∀q n' k' E v,q≠.tmp s→OwnAt (Mine Φ0 W) Φ ω w q n' k' E v→OwnAt (Mine Φ0 W) Φ (upd ω g (some (.box id))) (w.setRow g (news ++ cur.toList.drop news.length).toArray) q n' k' E v:=by
  intro q n' k' E v hq hh
  refine hh.step (fun g' eg=>?_)
  have hne:g'≠g:=by rintro rfl;rw [hω] at eg;cases eg;exact hq rfl
  exact ⟨setRow_other w g g' _ hne,fun j=>rfl,hω' g' q eg hq⟩
 refine ⟨Φ,upd μ id (some g),upd ω g (some (.box id)),?_,h.defers,by simp [Act.put,h.size],?_,h.old,fun t=>?_,fun t n' k' cs' E' et=>?_,fun i bs eb=>?_,?_,?_,h.gmu,?_,h.ext,fun i X e' => (h.map i X e').step (fun _ _ _ e=>e) hμ (fun q hq g' eg=>?_),fun g' p e' => ?_⟩
 ·exact h.below.trans ⟨rfl,rfl,rfl,by simp,fun j hj=>setRow_other w g j _ (hB.ne hj)⟩
 ·intro b o u eu
  have hb:b≠g:=by rintro rfl;rw [hfree] at eu;cases eu
  have:=h.imm b o u eu
  simp only [World.cell?] at this ⊢
  rw [setRow_other w g b _ hb];exact this
 ·rw [getD_put _ _ _ _ hd']
  simp only [upd_if]
  by_cases ht:t=d
  ·simp only [if_pos ht]
   exact .msl id 0 m k _ cap (fun _=>⟨g,by simp [upd_if],rfl⟩) hroom hcap
  ·simp only [if_neg ht]
   by_cases hts:t=s
   ·subst hts;simp only [if_true];exact ((h.tmps t).mono (fun _ _ _ e=>e) hμ).bare
   ·simp only [if_neg hts];exact (h.tmps t).mono (fun _ _ _ e=>e) hμ
 ·rw [getD_put _ _ _ _ hd']
  simp only [upd_if] at et
  by_cases ht:t=d
  ·simp only [if_pos ht] at et;cases et
  ·simp only [if_neg ht] at et ⊢
   by_cases hts:t=s
   ·simp only [if_pos hts] at et
    have:=PV.bare_own (σ.t s);rw [et] at this;simp [PV.ownB] at this
   ·simp only [if_neg hts] at et
    exact hstep _ _ _ _ _ (by simp [hts]) (h.own t n' k' cs' E' et)
 ·by_cases hi:i=id
  ·subst hi
   simp only [upd_if,if_true] at eb
   cases eb
   refine ⟨g,_,e,by simp [upd_if],setRow_heap w g cur _ e _ hg,hB,by simp [upd_if],hfree,by simp;omega,fun j c hc=>?_⟩
   obtain ⟨u,hu,hru⟩:=hn.get hc
   refine ⟨u,?_,hone u (mem_of_get hu),hru.mono (fun _ _ _ e=>e) hμ,fun n k cs E e' => ?_⟩
   ·rw [List.getElem?_toArray,List.getElem?_append_left (List.getElem?_eq_some_iff.1 hu).1];exact hu
   ·have:=hno c (mem_of_get hc)
    rw [e'] at this;simp [PV.ownB] at this
  ·simp only [upd_if,if_neg hi] at eb
   obtain ⟨g2,cur',Ty,h1,h2',h3,h4,h5,h6,h7⟩:=h.box i bs eb
   have hne:g2≠g:=by rintro rfl;rw [hω] at h4;cases h4
   refine ⟨g2,cur',Ty,hμ _ _ h1,by rw [setRow_other w g g2 _ hne];exact h2',h3,hω' g2 _ h4 (by simp),h5,h6,fun j c hc=>?_⟩
   obtain ⟨u,r1,r2,r3,r4⟩:=h7 j c hc
   exact ⟨u,r1,r2,r3.mono (fun _ _ _ e=>e) hμ,fun n k cs E e=>hstep _ _ _ _ _ (by simp) (r4 n k cs E e)⟩
 ·intro i e' em
  by_cases hi:i=id
  ·subst hi;simp [upd_if] at e'
  ·simp only [upd_if,if_neg hi] at e' ⊢; exact h.gone i e' em
 ·intro g' p eg
  simp only [upd_if] at eg
  split at eg
  ·subst g'; simpa using hlt
  ·simpa using h.lt g' p eg
 ·intro i g' e' hi
  have hne:i≠id:=by have:=h.gmu i g' e'; omega
  simp only [upd_if,if_neg hne] at hi ⊢
  exact h.kmu i g' e' hi
 ·have hne:g'≠g:=by rintro rfl;rw [hω] at eg;cases eg;rcases hq with hq|⟨j,hq⟩<;>cases hq
  exact ⟨setRow_other w g g' _ hne,fun j=>rfl,hω' g' q eg (by rintro rfl;rcases hq with hq|⟨j,hq⟩<;>cases hq)⟩
 ·simp only [upd_if] at e'
  split at e'
  ·subst g'; exact hB
  ·exact h.mine g' p e'
theorem Rel.freshBox (h:RelG Φ0 W M Φ μ ω σ a w) {s d id:Nat} (hlow:id < 1000000) (hid:σ.b id=none) (hmid:σ.m id=none) (hd:d < M) {m k cap:Nat} {ds:List PV} {news:List Value} {rest:Array Value} (T:TypeId) (hroom:m≤cap) (hcap:cap≤maxLen) (hn:RepL Φ μ ds news) (hone:∀u∈news,u.oneCell' = true) (hone2:∀u∈rest.toList,u.oneCell' = true) (hno:∀c∈ds,c.ownB=false) :
  Rel Φ0 W M { t:=upd (upd σ.t s (σ.t s).bare) d (.msl id 0 m k),b:=upd σ.b id (some ds),m:=σ.m } (a.put (some d) (.slice (some ⟨w.heap.size,0,none⟩) m cap)) (w.drew.alloc (.cells (news.toArray ++ rest) T)):=by
 have h1:=h.drew.newBox hlow hid hmid (bs:=ds ++ List.replicate rest.size .undef) (us:=news ++ rest.toList) ⟨by simp [hn.1],fun j c u hc hu=>by
  by_cases hj:j < ds.length
  ·rw [List.getElem?_append_left hj] at hc
   rw [List.getElem?_append_left (by rw [hn.1];exact hj)] at hu
   exact hn.2 j c u hc hu
  ·rw [List.getElem?_append_right (by omega)] at hc
   rw [(List.mem_replicate.1 (List.mem_of_getElem? hc)).2]
   exact .undef _⟩ (fun u hu=>by
    rcases List.mem_append.1 hu with hu|hu
    ·exact hone u hu
    ·exact hone2 u hu) (fun c hc=>by
    rcases List.mem_append.1 hc with hc|hc
    ·exact hno c hc
    ·rw [(List.mem_replicate.1 hc).2];rfl) T
 have h2:=h1.boxTake (id:=id) (cs:=ds) (bs:=ds ++ List.replicate rest.size .undef) (r:=List.replicate rest.size .undef) (by simp [upd_if]) rfl
 have h3:=h2.strip s
 have h4:=h3.put hd (p:=.msl id 0 m k) (v:=.slice (some ⟨w.heap.size,0,none⟩) m cap) (.msl id 0 m k _ cap (fun _=>⟨w.heap.size,by simp [upd_if],rfl⟩) hroom hcap) rfl
 have e:(news ++ rest.toList).toArray=news.toArray ++ rest:=by simp
 have e2:upd (upd σ.b id (some (ds ++ List.replicate rest.size .undef))) id (some ds)=upd σ.b id (some ds):=by
  funext j;simp only [upd_if];by_cases hj:j=id<;>simp [hj]
 rw [e] at h4
 have:({ t:=upd (upd σ.t s (σ.t s).bare) d (.msl id 0 m k),b:=upd σ.b id (some ds),m:=σ.m } : PS)=PS.put { σ with t:=upd σ.t s (σ.t s).bare,b:=upd (upd σ.b id (some (ds ++ List.replicate rest.size .undef))) id (some ds) } d (.msl id 0 m k):=by
  rw [e2];rfl
 rw [this]
 exact ⟨_,_,_,h4⟩
theorem appN_does (hT:T=tabOf P) (h:RelG Φ0 W M Φ μ ω σ a w) (o:Oper) {d s id:Nat} (hlow:id < 1000000) (hid:σ.b id=none) (hmid:σ.m id=none) (hd:o.dst=some d) (hM:d < M) {x:Operand} {t:TypeId} (hop:o.op = .call { callee:=.builtin .append,args := #[.tmp s,x],argTypes := #[t,t] })
  {ti:TyI} (ht:T.at t=some ti) {m e k by_:Nat} {ds zr:List PV} {own:Option TypeId} (hk:ti.kind = .slice e k by_ zr) (hs:σ.t s = .nilsl∨σ.t s = .sl 0 k [] (some e)) (he:e < 1000000) (hx:pev σ x = .sl m k ds own) (c1:m * by_≤140737488355328) (c2:m≤140737488355328) (h0:0 < m) (c3:ds.all PV.one=true) (hno:∀c∈ds,c.ownB=false) :
  Does P Φ0 W M a w o { t:=upd (upd σ.t s (σ.t s).bare) d (.msl id 0 m k),b:=upd σ.b id (some ds),m:=σ.m }:=by
 have ht' : tyI P t=some ti:=by rw [hT] at ht;exact tab_at rfl ht
 obtain ⟨hu,i,z,e1,e2,e3,e4,e5,e6,e7,-⟩:=slice_get ht' hk
 have hrun:∀v' w',(Builtin.append_ #[t,t] o.type #[a.eval (.tmp s),a.eval x]).run P w = .ok v' w'→(execOp a.eval o).run P w = .ok (.value v') w':=by
  intro v' w' hr
  simp only [execOp,hop,resolve,invoke,builtin,Sem.run_bind,Sem.run_pure,Result.andThen_ok,List.map_toArray,List.map_cons,List.map_nil,hr]
 have hml:m≤maxLen:=by unfold maxLen;omega
 have hxx:∃ad cx news,a.eval x = .slice ad m cx∧(0 < m→∃adr,ad=some adr∧∀j u,news[j]? = some u→w.cell? (adr.add j)=some u)∧RepL Φ μ ds news∧(∀u∈news,u.oneCell' = true)∧ds.length=m * k:=by
  have hxr:=h.ev x
  rw [hx] at hxr
  obtain ⟨ad,b,off,cap,us,hv,q1,q2,q3,q4,q5,q6⟩:=hxr.sl_inv
  have hrl:=repL_of_us ds us q6
  refine ⟨ad,cap,_,hv,fun hpos=>⟨_,q4 hpos,?_⟩,hrl,repL_one hrl c3,q3⟩
  intro j u hj
  rw [Addr.add_lit]
  have hjl:j < ds.length:=by have:=(List.getElem?_eq_some_iff.1 hj).1;simpa using this
  simp [hjl] at hj
  subst hj
  exact h.imm _ _ _ (q5 j hjl)
 obtain ⟨ad,cx,news,hxv,hxa,hxr,hxo,hdl⟩:=hxx
 have hnl:news.length=m * k:=by rw [hxr.1,hdl]
 obtain ⟨adr,rfl,hcells⟩:=hxa h0
 have hz:∀q,∀u∈(Builtin.zeroCells z.cells q).toList,u.oneCell' = true:=by
  intro q u hu
  have hpos:0 < z.cells.size:=by rw [e5];exact e6
  simp only [Builtin.zeroCells,Array.toList_map,List.mem_map] at hu
  obtain ⟨j,-,rfl⟩:=hu
  have hj:j % z.cells.size < z.cells.size:=Nat.mod_lt _ hpos
  rw [getElem!_pos z.cells _ hj]
  exact e7 _ (Array.getElem_mem_toList hj)
 have nilc:a.eval (.tmp s) = .slice none 0 0→Does P Φ0 W M a w o { t:=upd (upd σ.t s (σ.t s).bare) d (.msl id 0 m k),b:=upd σ.b id (some ds),m:=σ.m }:=by
  intro hs0
  have hr:=run_append_nil (P:=P) w t o.type e i z hu e1 e2 adr m cx news (by rw [hnl,e3]) hcells (by omega) (by omega) (by rw [e4];omega)
  refine ⟨_,_,_,hrun _ _ (by rw [hs0,hxv];exact hr), .inl rfl,?_⟩
  rw [hd]
  exact Rel.freshBox h hlow hid hmid hM e (grownCap_ge w m 0 e) (grownCap_le_maxLen w m 0 e (by omega)) hxr hxo (hz _) hno
 have grow:∀(ad2:Addr) cap,a.eval (.tmp s) = .slice (some ad2) 0 cap→cap≤maxLen→¬(m≤cap)→Does P Φ0 W M a w o { t:=upd (upd σ.t s (σ.t s).bare) d (.msl id 0 m k),b:=upd σ.b id (some ds),m:=σ.m }:=by
  intro ad2 cap hsv hcapm hroom
  have hr:=run_append_grow (P:=P) w t o.type e i z hu e1 e2 ad2 0 cap [] (by simp) (fun j u hj=>by simp at hj) adr m cx news (by rw [hnl,e3]) hcells (by omega) (by omega) (growslice_fits (by omega) (by rw [e4,Nat.zero_add];exact c1))
  refine ⟨_,_,_,hrun _ _ (by rw [hsv,hxv];exact hr), .inl rfl,?_⟩
  rw [hd]
  have:=Rel.freshBox h (s:=s) hlow hid hmid hM (k:=k) (rest:=Builtin.zeroCells z.cells (grownCap w (0+m) cap e - (0+m))) e (Nat.le_trans (Nat.le_of_eq (Nat.zero_add m).symm) (grownCap_ge w (0+m) cap e)) (grownCap_le_maxLen w (0+m) cap e (by omega)) hxr hxo (hz _) hno
  simpa using this
 rcases hs with hs|hs
 ·have:=h.tmps s
  rw [hs] at this
  exact nilc this.nilsl_inv
 ·rcases h.own s 0 k [] e hs with ⟨hnil,-⟩|⟨g,cap,cur,hv,hB,hg,q1,q2,q3,q4,q5⟩|⟨hfull,-⟩
  ·exact nilc hnil
  ·have hsv:a.eval (.tmp s) = .slice (some ⟨g,0,none⟩) 0 cap:=hv
   by_cases hroom:m≤cap
   ·have hfit:0 * i.size+news.length≤cur.size:=by rw [hnl,q3,Nat.zero_mul,Nat.zero_add];exact Nat.mul_le_mul_right _ hroom
    have hr:=run_append_room (P:=P) w t o.type e i hu e1 g 0 cap cur hg adr m cx news (by rw [hnl,e3]) hcells hxo (by omega) hfit
    refine ⟨_,_,_,hrun _ _ (by rw [hsv,hxv];exact hr), .inl rfl,?_⟩
    rw [hd]
    have:=h.appendBox (s:=s) hlow hid hmid hM hg hroom q3 q4 (fun j=>q5.2 j (by rw [Nat.zero_mul];omega)) hB q2 hdl hxr hxo hno
    simpa using this
   ·exact grow _ cap hsv q2 hroom
  ·exact absurd hfull (Nat.not_le.2 he)
end
section
open Go.RowKit
variable {P:Program} {T:Tab} {σ:PS} {o:Oper} {i base:Nat} {ops:Array Oper} {ok:Nat→Nat→Bool} {rest:List (Nat×Oper)} {K:PS→Prop}
theorem PWops.appN {d s m k e by_:Nat} {ds zr:List PV} {own:Option TypeId} {x:Operand} {t:TypeId} {sz:Nat} {ag:Bool} {zz:List PV} {es:List SK} (hT:T=tabOf P) (hg:pguard ops σ o=some true) (hok:∀j id,ok j id=true) (hd:o.dst=some d) (hop:o.op = .call { callee:=.builtin .append,args := #[.tmp s,x],argTypes := #[t,t] })
  (hs:σ.t s = .nilsl∨σ.t s = .sl 0 k [] (some e)) (hx:pev σ x = .sl m k ds own) (ht:T.at t=some ⟨sz,ag, .slice e k by_ zr,zz,es⟩) (hb:σ.freeB (base+i)=true) (hlow:Nat.blt (base+i) 1000000=true) (he:Nat.blt e 1000000=true) (h1:m * by_≤140737488355328) (h2:m≤140737488355328) (h0:0 < m) (hone:ds.all PV.one=true) (hno:ds.all (fun c => !c.ownB)=true)
  (kn:PWops P T ops base ok rest K (((σ.put s (σ.t s).bare).setb (base+i) ds).put d (.msl (base+i) 0 m k))):PWops P T ops base ok ((i,o) :: rest) K σ:=by
 refine PWops.sem (E:=⟨.msl (base+i) 0 m k,[(base+i,ds)],some s,[]⟩) hg hok ?_ (by rw [hd];exact kn)
 intro Φ0 W M a w hM hrel
 obtain ⟨Φ,μ,ω,hr⟩:=hrel
 obtain ⟨q1,q2⟩:=PS.freeB_spec hb
 have:=appN_does hT hr o (id:=base+i) (by simpa [Nat.blt_eq] using hlow) q1 q2 hd (hM d hd) hop ht rfl hs (by simpa [Nat.blt_eq] using he) hx h1 h2 h0 hone (fun c hc=>by simpa using List.all_eq_true.1 hno c hc)
 rw [hd]
 exact this
end
section
open Go.RowKit
variable {Φ0:Ent} {W:World} {M:Nat} {Φ:Imm} {μ:Nat→Option Nat} {ω:Nat→Option Who} {σ:PS} {a:Act} {w:World} {P:Program} {T:Tab}
theorem RelG.still (h:RelG Φ0 W M Φ μ ω σ a w) {g:Nat} {cur:Array Value} {Ty:TypeId} (hg:w.heap[g]? = some (.cells cur Ty (0,0))) (hB:Mine Φ0 W g) (hω:ω g=none) (hΦ:∀j,Φ g j=none):RelG Φ0 W M (immRow Φ g cur) μ ω σ a w:=by
 refine h.grow h.below ?_ ?_ ?_ ?_ (Nat.le_refl _)
 ·intro b o u e
  unfold immRow at e
  split at e
  ·subst b;simp only [World.cell?,hg];simpa using e
  ·exact h.imm b o u e
 ·intro b o hb;unfold immRow;rw [if_neg];rintro rfl;exact hB.ne hb rfl
 ·intro b o u e;unfold immRow;rw [if_neg]
  ·exact e
  ·rintro rfl;rw [hΦ] at e;cases e
 ·intro g' p e
  refine ⟨rfl,fun j=>?_⟩
  unfold immRow;rw [if_neg];rintro rfl;rw [hω] at e;cases e
theorem RelG.see (h:RelG Φ0 W M Φ μ ω σ a w) {s:Nat} {p:PV} (hp:Rep Φ μ p (a.tmps.getD s undef)) (ho:p.ownB=false):RelG Φ0 W M Φ μ ω (σ.put s p) a w:=by
 refine { h with tmps:=fun u=>?_,own:=fun u n k cs E e=>?_ }
 ·by_cases hu:u=s
  ·subst hu;simp only [PS.put,upd_if,if_true];exact hp
  ·simp only [PS.put,upd_if,if_neg hu];exact h.tmps u
 ·by_cases hu:u=s
  ·subst hu;simp only [PS.put,upd_if,if_true] at e;rw [e] at ho;simp [PV.ownB] at ho
  ·simp only [PS.put,upd_if,if_neg hu] at e ⊢; exact h.own u n k cs E e
theorem Sub.freeze {σ' : PS} {id s n k:Nat} {cs:List PV} (hb:σ.b id=some cs) (hs:σ.t s = .msl id 0 n k) (hl:cs.length=n * k) (hlow:∀c∈cs,Low c) (hsub:SubR (fun i=>i) (Kn σ') σ σ') (hid:σ'.freeB id=true):Sub M σ (σ'.put s (.sl n k cs none)):=by
 rintro Φ0 W a w ⟨Φ,μ,ω,hg⟩
 have h1:=hsub.rel (fun i hi=>hi.spec) (fun i j _ _ e=>e) (fun i _ _ _=>rfl) hg
 obtain ⟨g,cur,Ty,b1,b2,b3,b4,b5,b6,b7⟩:=hg.box id cs hb
 have hun:unren (fun i=>i) (Kn σ') (ω g)=none:=by
  rw [b4]
  unfold unren
  split
  ·rename_i h2;cases h2
  ·split
   ·rename_i hh
    obtain ⟨q,⟨i,hi,hq⟩,e⟩:=hh
    exfalso
    rcases hq with rfl|⟨j,rfl⟩
    ·simp only [renW,Option.some.injEq,Who.box.injEq] at e
     subst e
     rw [Kn,hid] at hi;cases hi
    ·simp [renW] at e
   ·rfl
 have h2:=h1.still b2 b3 hun b5
 refine ⟨_,_,_,h2.see ?_ rfl⟩
 have hv:=hg.tmps s
 rw [hs] at hv
 obtain ⟨ad,cap,hvv,c1,c2,c4⟩:=hv.msl_inv
 rw [hvv]
 rcases Nat.eq_zero_or_pos n with h0|h0
 ·subst h0
  have:cs = []:=List.eq_nil_of_length_eq_zero (by simpa using hl)
  subst this
  exact .sl0 _ _ _ _ (by assumption)
 ·obtain ⟨g',hg',rfl⟩:=c4 h0
  rw [b1] at hg'; cases hg'
  refine .sl n k cs none g 0 cap (fun j=>cur.getD j undef) hl (by assumption) (by assumption) (fun j hj=>?_) (fun j c hc=>?_)
  ·unfold immRow
   rw [if_pos rfl,Nat.zero_add,Array.getD_eq_getD_getElem?]
   rw [Array.getElem?_eq_getElem (by omega)];rfl
  ·obtain ⟨u,r1,r2,r3,-⟩:=b7 j c hc
   rw [Array.getD_eq_getD_getElem?,r1]
   refine Rep.mono (Φ:=Φ) (fun b o u e=>?_) (fun _ _ e=>e) (r3.low (hlow c (mem_of_get hc)))
   unfold immRow
   rw [if_neg]
   ·exact e
   ·rintro rfl;rw [b5] at e;cases e
theorem PW.freeze {σ' : PS} {id s n k:Nat} {cs:List PV} {c:Code} {Q:Exit→PS→Prop} (hb:σ.b id=some cs) (hs:σ.t s = .msl id 0 n k) (hl:cs.length=n * k) (hlow:∀c∈cs,Low c) (hsub:SubR (fun i=>i) (Kn σ') σ σ') (hid:σ'.freeB id=true) (h:PW P M c Q (σ'.put s (.sl n k cs none))):PW P M c Q σ:=
 h.sub (Sub.freeze hb hs hl hlow hsub hid)
theorem Sub.freezeP {σ' : PS} {id s off:Nat} {cs:List PV} (hb:σ.b id=some cs) (hs:σ.t s = .ptr id off) (hlow:∀c∈cs,Low c) (hsub:SubR (fun i=>i) (Kn σ') σ σ') (hid:σ'.freeB id=true):Sub M σ (σ'.put s (.ep cs off)):=by
 rintro Φ0 W a w ⟨Φ,μ,ω,hg⟩
 have h1:=hsub.rel (fun i hi=>hi.spec) (fun i j _ _ e=>e) (fun i _ _ _=>rfl) hg
 obtain ⟨g,cur,Ty,b1,b2,b3,b4,b5,b6,b7⟩:=hg.box id cs hb
 have hun:unren (fun i=>i) (Kn σ') (ω g)=none:=by
  rw [b4]
  unfold unren
  split
  ·rename_i h2;cases h2
  ·split
   ·rename_i hh
    obtain ⟨q,⟨i,hi,hq⟩,e⟩:=hh
    exfalso
    rcases hq with rfl|⟨j,rfl⟩
    ·simp only [renW,Option.some.injEq,Who.box.injEq] at e
     subst e
     rw [Kn,hid] at hi;cases hi
    ·simp [renW] at e
   ·rfl
 have h2:=h1.still b2 b3 hun b5
 refine ⟨_,_,_,h2.see ?_ rfl⟩
 have hv:=hg.tmps s
 rw [hs] at hv
 obtain ⟨g',hg',hvv⟩:=hv.ptr_inv
 rw [b1] at hg'; cases hg'
 rw [hvv]
 have e0:(⟨g,off,none⟩:Addr)=⟨g,0+off,none⟩:=by rw [Nat.zero_add]
 rw [e0]
 refine .ep cs off g 0 (fun j=>cur.getD j undef) (fun j hj=>?_) (fun j c hc=>?_)
 ·unfold immRow
  rw [if_pos rfl,Nat.zero_add,Array.getD_eq_getD_getElem?]
  rw [Array.getElem?_eq_getElem (by omega)];rfl
 ·obtain ⟨u,r1,r2,r3,-⟩:=b7 j c hc
  rw [Array.getD_eq_getD_getElem?,r1]
  refine Rep.mono (Φ:=Φ) (fun b o u e=>?_) (fun _ _ e=>e) (r3.low (hlow c (mem_of_get hc)))
  unfold immRow
  rw [if_neg]
  ·exact e
  ·rintro rfl;rw [b5] at e;cases e
theorem PW.freezeP {σ' : PS} {id s off:Nat} {cs:List PV} {c:Code} {Q:Exit→PS→Prop} (hb:σ.b id=some cs) (hs:σ.t s = .ptr id off) (hlow:∀c∈cs,Low c) (hsub:SubR (fun i=>i) (Kn σ') σ σ') (hid:σ'.freeB id=true) (h:PW P M c Q (σ'.put s (.ep cs off))):PW P M c Q σ:=
 h.sub (Sub.freezeP hb hs hlow hsub hid)
end
section
open Go.RowKit
def renN:List (Nat×Nat)→Nat→Nat
 | [],i=>i
 |(a,b) :: l,i=>cond (Nat.beq i a) b (renN l i)
theorem renN_mem:∀{l:List (Nat×Nat)} {i:Nat},i∈l.map (·.1)→(i,renN l i)∈l
 | [],i,h=>by simp at h
 |(a,b) :: l,i,h=>by
  unfold renN
  cases e:Nat.beq i a with
  |true=>
   have e':=Nat.eq_of_beq_eq_true e
   subst e'; exact List.mem_cons_self ..
  |false=>
   refine List.mem_cons_of_mem _ (renN_mem ?_)
   rcases List.mem_cons.1 h with rfl|h
   ·rw [Nat.beq_refl] at e;cases e
   ·exact h
theorem renN_inj {l:List (Nat×Nat)} (h2:(l.map (·.2)).Nodup):∀i∈l.map (·.1),∀j∈l.map (·.1),renN l i=renN l j→i=j:=by
 intro i hi j hj e
 have h3:=renN_mem hi
 have h4:=renN_mem hj
 rw [e] at h3
 have key:∀{l:List (Nat×Nat)} {a b c:Nat},(l.map (·.2)).Nodup→(a,c)∈l→(b,c)∈l→a=b:=by
  intro l
  induction l with
  |nil=>intro a b c _ h;simp at h
  |cons x l ih=>
   intro a b c hn ha hb
   simp only [List.map_cons,List.nodup_cons] at hn
   rcases List.mem_cons.1 ha with ha|ha<;>rcases List.mem_cons.1 hb with hb|hb
   ·rw [←ha] at hb;cases hb;rfl
   ·exact absurd (List.mem_map.2 ⟨_,hb,by rw [←ha]⟩) hn.1
   ·exact absurd (List.mem_map.2 ⟨_,ha,by rw [←hb]⟩) hn.1
   ·exact ih hn.2 ha hb
 exact key h2 h3 h4
end
section
open Go.RowKit
variable {S:Nat→Prop}
theorem li_nil:∀p∈([]:List PV),LowI S p:=by simp
theorem li_cons {p:PV} {ps:List PV} (h:LowI S p) (hs:∀q∈ps,LowI S q):∀q∈p :: ps,LowI S q:=by
 intro q hq
 rcases List.mem_cons.1 hq with rfl|hq
 ·exact h
 ·exact hs q hq
theorem li_low {ps:List PV} (h:∀p∈ps,Low p):∀p∈ps,LowI S p:=fun p hp=>(h p hp).lowI
theorem lb_nil:∀x∈([]:List (Nat×List PV)),∀p∈x.2,LowI S p:=by simp
theorem lb_cons {i:Nat} {bs:List PV} {l:List (Nat×List PV)} (h:∀p∈bs,LowI S p) (hs:∀x∈l,∀p∈x.2,LowI S p):∀x∈(i,bs) :: l,∀p∈x.2,LowI S p:=by
 intro x hx
 rcases List.mem_cons.1 hx with rfl|hx
 ·exact h
 ·exact hs x hx
theorem lm_nil:∀x∈([]:List (Nat×PMap)),LowM S x.2:=by simp
theorem lm_cons {i:Nat} {es:List (Nat×PV×PV)} {c:Nat} {l:List (Nat×PMap)} (h:∀e∈es,Low e.2.1∧Low e.2.2) (hs:∀x∈l,LowM S x.2):∀x∈(i,PMap.map es c) :: l,LowM S x.2:=by
 intro x hx
 rcases List.mem_cons.1 hx with rfl|hx
 ·exact fun e he=>⟨(h e he).1.lowI,(h e he).2.lowI⟩
 ·exact hs x hx
end
section
open Go.RowKit
variable {ρ:Nat→Nat} {S:Nat→Prop} {ps qs:List PV}
theorem ren_agg (h:RenL ρ S ps qs):Ren ρ S (.agg ps) (.agg qs):=.agg _ _ h.1 h.2
theorem ren_fn {f:FuncId} (h:RenL ρ S ps qs):Ren ρ S (.fn f ps) (.fn f qs):=.fn _ _ _ h.1 h.2
theorem ren_sl {n k:Nat} (h:RenL ρ S ps qs):Ren ρ S (.sl n k ps none) (.sl n k qs none):=.sl _ _ _ _ h.1 h.2
end
section
open Go.RowKit
theorem HCalls.at {P:Program} {f:FuncId} {args args' : List PV} {given given' res res' : List (Nat×List PV)} {gm gm' rm rm' : List (Nat×PMap)} {r r' : PV} (h:HCalls P f args given gm r res rm) (L:List (Nat×Nat)) (hd:(L.map (·.2)).Nodup) (hs:∀i∈ResIds res rm,i∈L.map (·.1)) (hs1:∀i∈given.map (·.1),i∈res.map (·.1)) (hs2:∀i∈gm.map (·.1),i∈rm.map (·.1))
  (ha:RenL (renN L) (fun i=>i∈ResIds given gm) args args') (hg:RenB (renN L) (fun i=>i∈ResIds given gm) given given') (hm:RenMs (renN L) (fun i=>i∈ResIds given gm) gm gm')
  (hr:Ren (renN L) (fun i=>i∈ResIds res rm) r r') (hres:RenB (renN L) (fun i=>i∈ResIds res rm) res res') (hrm:RenMs (renN L) (fun i=>i∈ResIds res rm) rm rm'):HCalls P f args' given' gm' r' res' rm':=
 h.ren (renN L) hs1 hs2 (fun i hi j hj e=>renN_inj hd i (hs i hi) j (hs j hj) e) ha hg hm hr hres hrm
def GivO (ω:Nat→Option Who) (ids:List Nat) (args:List PV) (g:Nat):Prop:=Giv ω ids g∨∃(i:Nat) (p:PV),args[i]? = some p∧p.ownB=true∧ω g=some (.tmp i)
def NewO (ω:Nat→Option Who) (w:World) (ids:List Nat) (args:List PV) (g:Nat):Prop:=w.heap.size≤g∨GivO ω ids args g
def OPost (Φ:Imm) (μ:Nat→Option Nat) (ω:Nat→Option Who) (w:World) (ids:List Nat) (args:List PV) (r:PV) (res:List (Nat×List PV)) (rm:List (Nat×PMap)) (e:Ending) (w' : World):Prop:=
 ∃v Φ' μ' ω',e = .returned v∧Rep Φ' μ' r v∧(∀b o u,Φ' b o=some u→w'.cell? ⟨b,o,none⟩=some u)∧(∀b o u,Φ b o=some u→Φ' b o=some u)∧(∀b o,b < w.heap.size→¬GivO ω ids args b→Φ' b o=Φ b o) ∧
  Kept (fun b=>b < w.heap.size∧¬GivO ω ids args b) w w'∧(∀id∈ids,μ' id=μ id)∧(∀id g,μ' id=some g→id∈ResIds res rm)∧(∀x∈res,BoxAt (NewO ω w ids args) Φ' μ' ω' w' x.1 x.2)∧(∀x∈rm,MapAt (NewO ω w ids args) Φ' μ' ω' w' x.1 x.2) ∧
  (∀g p,ω' g=some p→g < w'.heap.size∧NewO ω w ids args g)∧(∀n k cs E,r = .sl n k cs (some E)→OwnAt (NewO ω w ids args) Φ' ω' w' (.tmp 0) n k E v)
def OCalls (P:Program) (f:FuncId) (args:List PV) (given:List (Nat×List PV)) (gm:List (Nat×PMap)) (r:PV) (res:List (Nat×List PV)) (rm:List (Nat×PMap)):Prop:=
 callB P f=true∧∀(Φ:Imm) (μ:Nat→Option Nat) (ω:Nat→Option Who) (w:World) (vs:List Value),(∀b o u,Φ b o=some u→w.cell? ⟨b,o,none⟩=some u)→GlobOK Φ→RepL Φ μ args vs →
  (∀x∈given,BoxAt (fun _=>True) Φ μ ω w x.1 x.2)→(∀x∈gm,MapAt (fun _=>True) Φ μ ω w x.1 x.2)→(∀g p,ω g=some p→g < w.heap.size) →
  (∀(i n k:Nat) (cs:List PV) (E:TypeId) (v:Value),args[i]? = some (PV.sl n k cs (some E))→vs[i]? = some v→OwnAt (fun _=>True) Φ ω w (.tmp i) n k E v)→Calls P f vs.toArray w (OPost Φ μ ω w (ResIds given gm) args r res rm)
theorem own_mix {Φ:Imm} {μ:Nat→Option Nat} {n k g cap:Nat} {cs:List PV} {own:Option TypeId} (hr:Rep Φ μ (.sl n k cs own) (.slice (some ⟨g,0,none⟩) n cap)) (hf:∀j,n * k≤j→Φ g j=none) (hc:cs = []∨∃(j:Nat) (c:PV),cs[j]? = some c∧noI64 c=true):Mix Φ g:=by
 intro o u e
 obtain ⟨a,b,off,cap',us,hv,-,-,q3,q4,q5,q6⟩:=hr.sl_inv
 have ho:o < n * k:=by
  rcases Nat.lt_or_ge o (n * k) with h|h
  ·exact h
  ·rw [hf o h] at e;cases e
 have hn:0 < n:=by
  rcases Nat.eq_zero_or_pos n with h|h
  ·subst h;simp at ho
  ·exact h
 cases hv
 have h4:=q4 hn
 cases h4
 rcases hc with rfl|⟨j,c,hj,hc⟩
 ·simp at q3;omega
 ·have hjl:j < cs.length:=(List.getElem?_eq_some_iff.1 hj).1
  have h5:=q5 j hjl
  rw [Nat.zero_add] at h5
  exact ⟨j,_,h5,(q6 j c hj).noI64 hc⟩
open Classical in
theorem OCalls.ren {P:Program} {f:FuncId} {args args' : List PV} {given given' res res' : List (Nat×List PV)} {gm gm' rm rm' : List (Nat×PMap)} {r r' : PV} (h:OCalls P f args given gm r res rm) (ρ:Nat→Nat) (hs1:∀i∈given.map (·.1),i∈res.map (·.1)) (hs2:∀i∈gm.map (·.1),i∈rm.map (·.1))
  (hinj:∀i∈ResIds res rm,∀j∈ResIds res rm,ρ i=ρ j→i=j) (ha:RenL ρ (fun i=>i∈ResIds given gm) args args') (hg:RenB ρ (fun i=>i∈ResIds given gm) given given') (hm:RenMs ρ (fun i=>i∈ResIds given gm) gm gm')
  (hr:Ren ρ (fun i=>i∈ResIds res rm) r r') (hres:RenB ρ (fun i=>i∈ResIds res rm) res res') (hrm:RenMs ρ (fun i=>i∈ResIds res rm) rm rm'):OCalls P f args' given' gm' r' res' rm':=by
 refine ⟨h.1,fun Φ μ ω w vs himm hgl hrep hgb hgmm hlt hown=>?_⟩
 have hsub:∀i∈ResIds given gm,i∈ResIds res rm:=by
  intro i hi
  rcases List.mem_append.1 hi with hi|hi
  ·exact List.mem_append.2 (.inl (hs1 i hi))
  ·exact List.mem_append.2 (.inr (hs2 i hi))
 obtain ⟨g1,g2,g3⟩:=hg.mem
 obtain ⟨m1,m2,m3⟩:=hm.mem
 obtain ⟨b1,b2,b3⟩:=hres.mem
 obtain ⟨c1,c2,c3⟩:=hrm.mem
 have hids:ResIds given' gm' = (ResIds given gm).map ρ:=by simp only [ResIds,g3,m3,List.map_append]
 have hrids:ResIds res' rm' = (ResIds res rm).map ρ:=by simp only [ResIds,b3,c3,List.map_append]
 let μ1:Nat→Option Nat:=fun i=>if i∈ResIds given gm then μ (ρ i) else none
 let ω1:Nat→Option Who:=fun g=>if hh:∃q,((∃i∈ResIds given gm,OfId i q)∨∃t,q=Who.tmp t)∧ω g=some (renW ρ q) then some hh.choose else none
 have winj:∀q q',((∃i∈ResIds given gm,OfId i q)∨∃t,q=Who.tmp t)→((∃i∈ResIds given gm,OfId i q')∨∃t,q' = Who.tmp t)→renW ρ q=renW ρ q'→q=q':=by
  rintro q q' (⟨i,hi,hq⟩|⟨t,rfl⟩) (⟨j,hj,hq'⟩|⟨t',rfl⟩) e
  ·rcases hq with rfl|⟨x,rfl⟩<;>rcases hq' with rfl|⟨y,rfl⟩
   ·simp only [renW,Who.box.injEq] at e;rw [hinj i (hsub i hi) j (hsub j hj) e]
   ·simp [renW] at e
   ·simp [renW] at e
   ·simp only [renW,Who.cell.injEq] at e;rw [hinj i (hsub i hi) j (hsub j hj) e.1,e.2]
  ·rcases hq with rfl|⟨x,rfl⟩<;>simp [renW] at e
  ·rcases hq' with rfl|⟨y,rfl⟩<;>simp [renW] at e
  ·simpa [renW] using e
 have hω1:∀g q,((∃i∈ResIds given gm,OfId i q)∨∃t,q=Who.tmp t)→(ω1 g=some q↔ω g=some (renW ρ q)):=by
  intro g q hq
  constructor
  ·intro e
   have e' : (if hh:∃q,((∃i∈ResIds given gm,OfId i q)∨∃t,q=Who.tmp t)∧ω g=some (renW ρ q) then some hh.choose else none)=some q:=e
   split at e'
   ·rename_i hh
    have:=hh.choose_spec.2
    cases e'
    exact this
   ·cases e'
  ·intro e
   show (if hh:_ then _ else _)=_
   have hh:∃q,((∃i∈ResIds given gm,OfId i q)∨∃t,q=Who.tmp t)∧ω g=some (renW ρ q):=⟨q,hq,e⟩
   rw [dif_pos hh]
   have h2:=hh.choose_spec
   have h3:some (renW ρ q)=some (renW ρ hh.choose):=e.symm.trans h2.2
   simp only [Option.some.injEq] at h3
   rw [winj _ _ h2.1 hq h3.symm]
 have hω1' : ∀g q,ω1 g=some q→((∃i∈ResIds given gm,OfId i q)∨∃t,q=Who.tmp t)∧ω g=some (renW ρ q):=by
  intro g q e
  have e' : (if hh:∃q,((∃i∈ResIds given gm,OfId i q)∨∃t,q=Who.tmp t)∧ω g=some (renW ρ q) then some hh.choose else none)=some q:=e
  split at e'
  ·rename_i hh
   have:=hh.choose_spec
   cases e'
   exact this
  ·cases e'
 have hgiv0:∀g,Giv ω1 (ResIds given gm) g↔Giv ω (ResIds given' gm') g:=by
  intro g
  constructor
  ·rintro ⟨i,hi,q,hq,e⟩
   refine ⟨ρ i,by rw [hids];exact List.mem_map.2 ⟨i,hi,rfl⟩,renW ρ q,?_,(hω1' g q e).2⟩
   rcases hq with rfl|⟨j,rfl⟩
   ·exact .inl rfl
   ·exact .inr ⟨j,rfl⟩
  ·rintro ⟨i',hi0,q',hq,e⟩
   rw [hids] at hi0
   obtain ⟨i,hi,rfl⟩:=List.mem_map.1 hi0
   rcases hq with rfl|⟨j,rfl⟩
   ·exact ⟨i,hi, .box i, .inl rfl,(hω1 g _ (.inl ⟨i,hi, .inl rfl⟩)).2 e⟩
   ·exact ⟨i,hi, .cell i j, .inr ⟨j,rfl⟩,(hω1 g _ (.inl ⟨i,hi, .inr ⟨j,rfl⟩⟩)).2 e⟩
 have hag:∀(i n k:Nat) (cs:List PV) (E:TypeId),args[i]? = some (PV.sl n k cs (some E))↔args'[i]? = some (PV.sl n k cs (some E)):=by
  intro i n k cs E
  constructor
  ·intro e
   obtain ⟨q,hq⟩:=get_of_len ha.1.symm e
   have:=(ha.2 i _ q e hq).own (.inl rfl)
   rw [this];exact hq
  ·intro e
   obtain ⟨q,hq⟩:=get_of_len ha.1 e
   have:=(ha.2 i q _ hq e).own (.inr rfl)
   rw [←this];exact hq
 have hgiv:∀g,GivO ω1 (ResIds given gm) args g↔GivO ω (ResIds given' gm') args' g:=by
  intro g
  constructor
  ·rintro (h1|⟨i,p,h1,h2,h3⟩)
   ·exact .inl ((hgiv0 g).1 h1)
   ·obtain ⟨q,hq⟩:=get_of_len ha.1.symm h1
    have e:=(ha.2 i p q h1 hq).own (.inl h2)
    exact .inr ⟨i,q,hq,by rw [←e];exact h2,(hω1' g _ h3).2⟩
  ·rintro (h1|⟨i,p,h1,h2,h3⟩)
   ·exact .inl ((hgiv0 g).2 h1)
   ·obtain ⟨q,hq⟩:=get_of_len ha.1 h1
    have e:=(ha.2 i q p hq h1).own (.inr h2)
    exact .inr ⟨i,q,hq,by rw [e];exact h2,(hω1 g (.tmp i) (.inr ⟨i,rfl⟩)).2 h3⟩
 have hμ1:∀i,i∈ResIds given gm→∀g,μ (ρ i)=some g→μ1 i=some g:=fun i hi g e=>by show (if _ then _ else _)=_;rw [if_pos hi];exact e
 have hrep1:RepL Φ μ1 args vs:=⟨by rw [hrep.1,ha.1],fun j p u hp hu=>by
  obtain ⟨q,hq⟩:=get_of_len ha.1.symm hp
  exact (ha.2 j p q hp hq).bwd hμ1 (hrep.2 j q u hq hu)⟩
 refine (h.2 Φ μ1 ω1 w vs himm hgl hrep1 (fun x hx=>?_) (fun x hx=>?_) (fun g p e=>hlt g _ (hω1' g p e).2) (fun i n k cs E v h1 h2=>?_)).mono ?_
 ·obtain ⟨y,hy,e1,e2⟩:=g1 x hx
  have hi:x.1∈ResIds given gm:=List.mem_append.2 (.inl (List.mem_map.2 ⟨x,hx,rfl⟩))
  have:=hgb y hy
  rw [e1] at this
  exact this.bwd hi e2 hμ1 (fun q hq g e=>⟨(hω1 g q (.inl ⟨x.1,hi,hq⟩)).2 e,fun _=>trivial⟩)
 ·obtain ⟨y,hy,e1,e2⟩:=m1 x hx
  have hi:x.1∈ResIds given gm:=List.mem_append.2 (.inr (List.mem_map.2 ⟨x,hx,rfl⟩))
  have:=hgmm y hy
  rw [e1] at this
  exact this.bwd hi e2 hμ1 (fun q hq g e=>⟨(hω1 g q (.inl ⟨x.1,hi,hq⟩)).2 e,fun _=>trivial⟩)
 ·rcases hown i n k cs E v ((hag i n k cs E).1 h1) h2 with q|⟨g,cap,cur,q1,q2,q3,q4,q5,q6,q7,q8⟩|q
  ·exact .inl q
  ·exact .inr (.inl ⟨g,cap,cur,q1,trivial,q3,q4,q5,q6,(hω1 g (.tmp i) (.inr ⟨i,rfl⟩)).2 q7,q8⟩)
  ·exact .inr (.inr q)
 rintro e w' ⟨v,Φ',μ',ω',rfl,k1,k2,k3,k4,k5,k6,k7,k8,k9,k10,k11⟩
 let μ2:Nat→Option Nat:=fun i' => if hh:∃i∈ResIds res rm,ρ i=i' then μ' hh.choose else none
 have hμ2:∀i,i∈ResIds res rm→μ2 (ρ i)=μ' i:=by
  intro i hi
  show (if hh:_ then _ else _)=_
  have hh:∃j∈ResIds res rm,ρ j=ρ i:=⟨i,hi,rfl⟩
  rw [dif_pos hh]
  have:=hh.choose_spec
  rw [hinj _ this.1 _ hi this.2]
 have hμ2' : ∀i,i∈ResIds res rm→∀g,μ' i=some g→μ2 (ρ i)=some g:=fun i hi g e=>by rw [hμ2 i hi];exact e
 let ω2:Nat→Option Who:=fun g=>(ω' g).map (renW ρ)
 have hnew:∀g,NewO ω1 w (ResIds given gm) args g↔NewO ω w (ResIds given' gm') args' g:=fun g=>or_congr Iff.rfl (hgiv g)
 refine ⟨v,Φ',μ2,ω2,rfl,hr.fwd hμ2' k1,k2,k3,fun b o hb hng=>k4 b o hb (fun hh=>hng ((hgiv b).1 hh)),k5.mono fun k hk=>⟨hk.1,fun hh=>hk.2 ((hgiv k).1 hh)⟩,fun i' hi' => ?_,fun i' g e=>?_,fun y hy=>?_,fun y hy=>?_,fun g p e=>?_,fun n k cs E e=>?_⟩
 ·rw [hids] at hi'
  obtain ⟨i,hi,rfl⟩:=List.mem_map.1 hi'
  rw [hμ2 i (hsub i hi),k6 i hi]
  show (if _ then _ else _)=_
  rw [if_pos hi]
 ·have e' : (if hh:∃i∈ResIds res rm,ρ i=i' then μ' hh.choose else none)=some g:=e
  split at e'
  ·rename_i hh
   obtain ⟨i,hi,rfl⟩:=hh
   rw [hrids];exact List.mem_map.2 ⟨i,hi,rfl⟩
  ·cases e'
 ·obtain ⟨x,hx,e1,e2⟩:=b2 y hy
  have hi:x.1∈ResIds res rm:=List.mem_append.2 (.inl (List.mem_map.2 ⟨x,hx,rfl⟩))
  rw [e1]
  exact (k8 x hx).fwd hi e2 hμ2' (fun q hq g e=>⟨by show (ω' g).map _=_;rw [e];rfl,fun hb=>(hnew g).1 hb⟩)
 ·obtain ⟨x,hx,e1,e2⟩:=c2 y hy
  have hi:x.1∈ResIds res rm:=List.mem_append.2 (.inr (List.mem_map.2 ⟨x,hx,rfl⟩))
  rw [e1]
  exact (k9 x hx).fwd hi e2 hμ2' (fun q hq g e=>⟨by show (ω' g).map _=_;rw [e];rfl,fun hb=>(hnew g).1 hb⟩)
 ·have e' : (ω' g).map (renW ρ)=some p:=e
  obtain ⟨q,hq,-⟩:=Option.map_eq_some_iff.1 e'
  exact ⟨(k10 g q hq).1,(hnew g).1 (k10 g q hq).2⟩
 ·have hre:r=r':=hr.own (.inr (by rw [e];rfl))
  rcases k11 n k cs E (by rw [hre,e]) with q|⟨g',cap,cur',q1,q2,q3,q4,q5,q6,q7,q8⟩|q
  ·exact .inl q
  ·exact .inr (.inl ⟨g',cap,cur',q1,(hnew g').1 q2,q3,q4,q5,q6,by show (ω' g').map _=_;rw [q7];rfl,q8⟩)
  ·exact .inr (.inr q)
theorem OCalls.at {P:Program} {f:FuncId} {args args' : List PV} {given given' res res' : List (Nat×List PV)} {gm gm' rm rm' : List (Nat×PMap)} {r r' : PV} (h:OCalls P f args given gm r res rm) (L:List (Nat×Nat)) (hd:(L.map (·.2)).Nodup) (hs:∀i∈ResIds res rm,i∈L.map (·.1)) (hs1:∀i∈given.map (·.1),i∈res.map (·.1)) (hs2:∀i∈gm.map (·.1),i∈rm.map (·.1))
  (ha:RenL (renN L) (fun i=>i∈ResIds given gm) args args') (hg:RenB (renN L) (fun i=>i∈ResIds given gm) given given') (hm:RenMs (renN L) (fun i=>i∈ResIds given gm) gm gm')
  (hr:Ren (renN L) (fun i=>i∈ResIds res rm) r r') (hres:RenB (renN L) (fun i=>i∈ResIds res rm) res res') (hrm:RenMs (renN L) (fun i=>i∈ResIds res rm) rm rm'):OCalls P f args' given' gm' r' res' rm':=
 h.ren (renN L) hs1 hs2 (fun i hi j hj e=>renN_inj hd i (hs i hi) j (hs j hj) e) ha hg hm hr hres hrm
def MidP {α:Type} (M:Nat) (st:α→PS) (I:α→Prop) (Q:Exit→PS→Prop):Exit→PS→Prop
 | .normal,σ=>∃x,I x∧Sub M σ (st x)
 |e,σ=>Q e σ
end
section
open Go.RowKit
variable {P:Program} {M:Nat} {Q:Exit→PS→Prop} {σ:PS}
theorem midP {α:Type} {st:α→PS} {I:α→Prop} (x:α) (hi:I x) (hs:Sub M σ (st x)):MidP M st I Q .normal σ:=⟨x,hi,hs⟩
theorem midP_ret {α:Type} {st:α→PS} {I:α→Prop} (h:Q .ret σ):MidP M st I Q .ret σ:=h
theorem PW.cutT {α:Type} {c y:Code} (st:α→PS) (I:α→Prop) (h1:PW P M c (MidP M st I Q) σ) (h2:∀x,I x→PW P M y Q (st x)):PW P M c (ThenP P M y Q) σ:=by
 refine PW.conseq h1 fun e σ' h=>?_
 cases e with
 |normal=>
  obtain ⟨x,hx,hs⟩:=h
  exact PW.sub (h2 x hx) hs
 |_=>exact h
end
end Go.Proofs.YtoamkpgaaanafaaGreat
