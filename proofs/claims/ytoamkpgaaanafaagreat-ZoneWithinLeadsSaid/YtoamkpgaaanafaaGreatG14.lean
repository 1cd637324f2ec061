/- Out of: Pb, Pf, PwX2, PwIt, PwIt2, PwIt3, PwZ3, PwZ4, PwZ6, PwRn, PwOw, PwIt4, PwIt5, PwIt6, Za. -/
import Derived.Test.YtoamkpgaaanafaaGreatRows
import Derived.WalkKit
import Derived.WalkSpells
import Derived.WalkLawsBesides
import Derived.Deep.QuietTactic
import Derived.BigQuiet
import Derived.RegionTactic
import Derived.Lib.AppendZeros
import Derived.Lib.AppendStr
import Derived.Lib.Hide
import Derived.OrdersIn
import Derived.Laws.BytesString
import Derived.WideLaws
import Derived.RangeFuncRecord
import Derived.Orders
import GoSem.Step
import Derived.Laws.RangeAny
import Derived.Lib.OthersKept
import Derived.Outline
import Derived.Laws.EntriesVeiled
import Derived.KernelRfl
import Derived.StillTailTactics
import Derived.Deep.Cut
import Derived.RangeFuncCalls
import Derived.Test.YtoamkpgaaanafaaGreatG1
import Derived.Test.YtoamkpgaaanafaaGreatG3
import Derived.Test.YtoamkpgaaanafaaGreatG5
import Derived.Test.YtoamkpgaaanafaaGreatG6
import Derived.Test.YtoamkpgaaanafaaGreatG7
import Derived.Test.YtoamkpgaaanafaaGreatG8
import Derived.Test.YtoamkpgaaanafaaGreatG9
import Derived.Test.YtoamkpgaaanafaaGreatG10
import Derived.Test.YtoamkpgaaanafaaGreatG11
namespace Go.Proofs.YtoamkpgaaanafaaGreat
set_option linter.unusedSimpArgs false
set_option linter.unusedVariables false
set_option linter.unnecessarySimpa false
section
open Go.RowKit
def smallA (a:PAttr):Bool:=decide (a.name.size≤300) && decide (a.s.size≤300)
def fewB (e:PEntry):Bool:=(e.attrs.take 21).all smallA && (decide (e.vec.length≤40) && decide (e.attrs.length≤20))
def entCellsP (e:PEntry):List PV := [pint e.id,pint e.ver,pint e.owner,pint e.filed,pint e.frm,pint e.to,pint e.born,pints e.vec,pattrs e.attrs]
theorem low_entCells (e:PEntry):∀c∈entCellsP e,Low c:=low_agg.1 ((low_pentry e).2 trivial)
theorem attr_cell {l:List PAttr} {k:Nat} {a:PAttr} (h:l[k]? = some a):(l.flatMap pattrL)[k * 4+0]? = some (pstr a.name)∧(l.flatMap pattrL)[k * 4+1]? = some (pint a.kind)∧(l.flatMap pattrL)[k * 4+2]? = some (pint a.n)∧(l.flatMap pattrL)[k * 4+3]? = some (pstr a.s):=
 ⟨flatMap_get (f:=pattrL) (k:=4) (fun _=>rfl) h rfl,flatMap_get (f:=pattrL) (k:=4) (fun _=>rfl) h rfl,flatMap_get (f:=pattrL) (k:=4) (fun _=>rfl) h rfl,flatMap_get (f:=pattrL) (k:=4) (fun _=>rfl) h rfl⟩
set_option maxRecDepth 10000 in
set_option maxHeartbeats 1000000 in
theorem pw_few (e:PEntry) (hl:e.attrs.length≤20000000000000) (hv:e.vec.length≤20000000000000):PCalls Tryz.prog 33 [pentry e] (· = pbool (fewB e)):=by
 refine pcalls_of_pw typeTab_ok Tryz.func33 rfl (by kernel_rfl) (by exact lw) (by simp [pentry,PV.ownB]) (by rw [Tryz.ntmps33];simp) ?_
 rw [Tryz.ntmps33,Tryz.results33]
 refine wk ?_
 refine PW.loop (fun k:Nat=>(((bot.setb 0 (entCellsP e)).put 1 (.ptr 0 0)).put 2 (pbool false)).put 3 (pint k)) (fun k=>k≤e.attrs.length∧k≤21∧(e.attrs.take k).all smallA=true) (fun k=>e.attrs.length - k) 0 ⟨by omega,by omega,by simp⟩ ?_ ?_
 ·exact sb
 ·rintro k ⟨hk,hk2,hall⟩
  by_cases hlt:k < e.attrs.length
  ·by_cases h20:k≤20
   ·obtain ⟨a,ha⟩:=ints_get e.attrs k hlt
    obtain ⟨c0,c1,c2,c3⟩:=attr_cell ha
    have hbad:smallA a=false→fewB e=false:=by
     intro hs
     have:(e.attrs.take 21).all smallA=false:=by
      rw [List.all_eq_false]
      exact ⟨a,by rw [List.mem_take_iff_getElem];obtain ⟨h3,h4⟩:=List.getElem?_eq_some_iff.1 ha;exact ⟨k,by omega,h4⟩,by simp [hs]⟩
     simp [fewB,this]
    by_cases h1:300 < a.name.size
    ·refine wk ?_
     refine retP rfl (by exact lw) ?_
     rw [hbad (by simp [smallA];omega)];rfl
    ·by_cases h2:300 < a.s.size
     ·refine wk ?_
      refine retP rfl (by exact lw) ?_
      rw [hbad (by simp [smallA];omega)];rfl
     ·refine wk ?_
      refine loopP (k+1) ⟨by omega,by omega,?_⟩ (by omega) ?_
      ·rw [List.take_add_one,List.all_append,hall,ha]
       simp [smallA];omega
      ·exact sb
   ·have e21:(e.attrs.take 21).all smallA=true:=by rw [show k=21 by omega] at hall;exact hall
    have hr:fewB e=false:=by simp [fewB];omega
    by_cases hv40:e.vec.length≤40
    ·have:¬e.attrs.length≤20:=by omega
     refine wk ?_
     refine retP rfl (by exact lw) ?_
     rw [hr];rfl
    ·refine wk ?_
     refine retP rfl (by exact lw) ?_
     rw [hr];rfl
  ·have e21:(e.attrs.take 21).all smallA=true:=by
    rw [List.take_of_length_le (by omega)] at hall
    rw [List.all_eq_true] at hall ⊢
    exact fun x hx=>hall x (List.mem_of_mem_take hx)
   by_cases hv40:e.vec.length≤40
   ·by_cases ha20:e.attrs.length≤20
    ·refine wk ?_
     refine retP rfl (by exact lw) ?_
     simp [fewB,e21,hv40,ha20,pbool]
    ·refine wk ?_
     refine retP rfl (by exact lw) ?_
     simp [fewB,ha20,pbool]
   ·refine wk ?_
    refine retP rfl (by exact lw) ?_
    simp [fewB,hv40,pbool]
def smallDefB (d:PDef):Bool:=decide (d.words.length≤60) && (decide (d.name.size≤100) && d.words.all (fun s=>decide (s.size≤100)))
def fewDefsB (s:PSchema):Bool:=(s.defs.take 21).all smallDefB && decide (s.defs.length≤20)
def schCellsP (s:PSchema):List PV := [pint s.dims,pint s.metric,pdefs s.defs]
theorem low_schCells (s:PSchema):∀c∈schCellsP s,Low c:=low_agg.1 ((low_pschema s).2 trivial)
theorem fewDefsB_few {s:PSchema} (h:fewDefsB s=true):FewS s:=by
 simp only [fewDefsB,Bool.and_eq_true,decide_eq_true_eq,List.all_eq_true] at h
 obtain ⟨h1,h2⟩:=h
 refine ⟨h2,fun d hd=>?_⟩
 rw [List.take_of_length_le (by omega)] at h1
 have:=h1 d hd
 simpa [smallDefB,FewD] using this
def okF (env:Nat→Option Nat) (ban:Nat→Nat→Bool) (ops:List Oper) (base i id:Nat):Bool:=okD (clos ops) base ops.length i id && ((match (ops[i]?).bind (tgtOf env base ops) with|some k=>Nat.beq id k|none=>true) && !ban i id)
def sepF (env:Nat→Option Nat) (ban:Nat→Nat→Bool) (base:Nat) (ops:List Oper) (iy ix:Nat) (y x:Oper):Bool:=
 (match tgtOf env base ops y with|some k => !okF env ban ops base ix k|none=>false) || (match tgtOf env base ops x with|some k => !okF env ban ops base iy k|none=>false)
theorem sepF_ok {env:Nat→Option Nat} {ban:Nat→Nat→Bool} {ops:List Oper} {base iy ix:Nat} {y x:Oper} (hy:ops[iy]? = some y) (hx:ops[ix]? = some x) (hs:sepF env ban base ops iy ix y x=true) (j:Nat) (h1:okF env ban ops base iy j=true) (h2:okF env ban ops base ix j=true):False:=by
 have res:∀(i:Nat) o k,ops[i]? = some o→okF env ban ops base i j=true→tgtOf env base ops o=some k→j=k:=by
  intro i o k ho h hr
  simp only [okF,ho,Option.bind_some,hr,Bool.and_eq_true] at h
  exact Nat.eq_of_beq_eq_true h.2.1
 simp only [sepF,Bool.or_eq_true] at hs
 rcases hs with hs|hs
 ·cases hr:tgtOf env base ops y with
  |none=>rw [hr] at hs;cases hs
  |some k=>
   rw [hr] at hs
   have e:=res iy y k hy h1 hr
   subst e
   simp [h2] at hs
 ·cases hr:tgtOf env base ops x with
  |none=>rw [hr] at hs;cases hs
  |some k=>
   rw [hr] at hs
   have e:=res ix x k hx h2 hr
   subst e
   simp [h1] at hs
def indF (env:Nat→Option Nat) (ban:Nat→Nat→Bool) (base:Nat) (ops:Array Oper) (iy ix:Nat) (y x:Oper):Bool:=
 (match y.dst,x.dst with|some a,some b=>a != b|_,_=>true) &&
 (match y.dst with|some a => !(tmpsOf x.op.operands.toList).contains a && !(guardT ops x).contains a|none=>true) &&
 (match x.dst with|some b => !(tmpsOf y.op.operands.toList).contains b && !(guardT ops y).contains b|none=>true) &&
 (takesB (headB ops y.dst) y).all (fun s => !(takesB (headB ops x.dst) x).contains s) &&
 (!(mapW (headB ops y.dst) y && mapU x) && !(mapW (headB ops x.dst) x && mapU y)) &&
 ((!(storeB y && usesBox x) && !(storeB x && usesBox y) && !(isStore (headB ops y.dst) y && isStore (headB ops x.dst) x)) || sepF env ban base ops.toList iy ix y x)
def drawF (env:Nat→Option Nat) (ban:Nat→Nat→Bool) (base:Nat) (ops:List Oper):Bool:=
 let cl:=clos ops
 (indexed 0 ops).all fun x=>x.2.after.toList.all (fun e => !Region.binds .any e || decide (e.on < x.1)) &&
  (indexed 0 ops).all fun y => !decide (y.1 < x.1) || (cl.getD x.1 []).contains y.1 || indF env ban base ops.toArray y.1 x.1 y.2 x.2
end
section
open Go.RowKit
variable {P:Program} {T:Tab} {σ:PS} {ops:Array Oper} {base:Nat} {ok:Nat→Nat→Bool}
theorem ind_partsF {env:Nat→Option Nat} {ban:Nat→Nat→Bool} {eb:Nat} {iy ix:Nat} {y x:Oper} (h:indF env ban eb ops iy ix y x=true):Ind ops (sepF env ban eb ops.toList iy ix y x=true) y x:=by
 simp only [indF,Bool.and_eq_true,Bool.not_eq_true',Bool.or_eq_true (_ && _) (sepF _ _ _ _ _ _ _ _)] at h
 obtain ⟨⟨⟨⟨⟨h1,h2⟩,h3⟩,h4⟩,h6⟩,h5⟩:=h
 refine ⟨?_,?_,?_,?_,?_,?_,?_,?_,?_⟩
 ·intro a b ea eb
  rw [ea,eb] at h1
  simpa using h1
 ·intro a ea
  rw [ea] at h2
  simpa using h2
 ·intro a ea
  rw [ea] at h3
  simpa using h3
 ·intro s hs
  have:=List.all_eq_true.1 h4 s hs
  simpa using this
 ·intro e1 e2
  rcases h5 with h5|h5
  ·simp only [e1,e2,Bool.and_eq_true,Bool.not_eq_true',Bool.and_true,Bool.true_and] at h5
   simp at h5
  ·exact h5
 ·intro e1 e2
  rcases h5 with h5|h5
  ·simp only [e1,e2,Bool.and_eq_true,Bool.not_eq_true',Bool.and_true,Bool.true_and] at h5
   simp at h5
  ·exact h5
 ·intro e1 e2
  rcases h5 with h5|h5
  ·simp only [e1,e2,Bool.and_eq_true,Bool.not_eq_true',Bool.and_true,Bool.true_and] at h5
   simp at h5
  ·exact h5
 ·intro e1 e2
  have:=h6.1
  rw [e1,e2] at this;cases this
 ·intro e1 e2
  have:=h6.2
  rw [e1,e2] at this;cases this
end
section
open Go.RowKit
theorem PWops.bubbleF {P:Program} {T:Tab} {ops:Array Oper} {base:Nat} {ok:Nat→Nat→Bool} {env:Nat→Option Nat} {ban:Nat→Nat→Bool} {eb:Nat} {ix:Nat} {x:Oper} {post:List (Nat×Oper)} {Q:PS→Prop} : ∀(pre:List (Nat×Oper)) (σ:PS),(∀y∈pre,(indF env ban eb ops y.1 ix y.2 x=true∧(sepF env ban eb ops.toList y.1 ix y.2 x=true→∀j,ok y.1 j=true→ok ix j=true→False))∧y.1≠ix∧ok ix (base+y.1)=false∧ok y.1 (base+ix)=false) →
  PWops P T ops base ok (pre ++ (ix,x) :: post) Q σ→PWops P T ops base ok ((ix,x) :: (pre ++ post)) Q σ
 | [],σ,_,h=>h
 |(iy,y) :: pre,σ,hall,h=>by
  obtain ⟨h1,h2,h3,h4⟩:=hall (iy,y) (by simp)
  have ih:=PWops.bubbleF (P:=P) (T:=T) (ops:=ops) (base:=base) (ok:=ok) (env:=env) (ban:=ban) (eb:=eb) (ix:=ix) (x:=x) (post:=post) (Q:=Q) pre
  have:PWop P T ops base ok iy y (PWop P T ops base ok ix x (PWops P T ops base ok (pre ++ post) Q)) σ:=
   PWop.mono (fun σ' h' => ih σ' (fun z hz=>hall z (by simp [hz])) h') h
  exact PWop.swap (ind_partsF h1.1) h1.2 h2 h3 h4 this
theorem draw_partsF {env:Nat→Option Nat} {ban:Nat→Nat→Bool} {eb:Nat} {ops:List Oper} (h:drawF env ban eb ops=true):(∀(i:Nat) o,ops[i]? = some o→∀e∈o.after.toList,Region.binds .any e=true→e.on < i) ∧
  (∀(i j:Nat) x y,ops[i]? = some x→ops[j]? = some y→j < i→j∈(clos ops).getD i []∨indF env ban eb ops.toArray j i y x=true):=by
 have hm:∀(i:Nat) o,ops[i]? = some o→(i,o)∈indexed 0 ops:=by
  have:∀(l:List Oper) (k i:Nat) o,l[i]? = some o→(k+i,o)∈indexed k l:=by
   intro l
   induction l with
   |nil=>intro k i o h;simp at h
   |cons p l ih=>
    intro k i o h
    cases i with
    |zero=>simp at h;subst h;simp [indexed]
    |succ i=>
     simp at h
     have:=ih (k+1) i o h
     simp only [indexed,List.mem_cons]
     right
     rw [show k+(i+1)=k+1+i by omega];exact this
  intro i o h
  have:=this ops 0 i o h
  rwa [Nat.zero_add] at this
 simp only [drawF] at h
 have h':=List.all_eq_true.1 h
 refine ⟨fun i o ho e he hb=>?_,fun i j x y hx hy hji=>?_⟩
 ·have:=h' _ (hm i o ho)
  simp only [Bool.and_eq_true] at this
  have:=List.all_eq_true.1 this.1 e he
  simpa [hb] using this
 ·have:=h' _ (hm i x hx)
  simp only [Bool.and_eq_true] at this
  have:=List.all_eq_true.1 this.2 _ (hm j y hy)
  simp only [hji,decide_true,Bool.not_true,Bool.false_or,Bool.or_eq_true,List.contains_iff_mem] at this
  exact this
end
section
open Go.RowKit
variable {Φ0:Ent} {W:World} {M:Nat} {P:Program} {T:Tab} {ops:List Oper} {base:Nat} {env:Nat→Option Nat} {ban:Nat→Nat→Bool}
theorem any_soundF (hT:T=tabOf P) (hbase:base+ops.toArray.size≤1000000) (hall:∀(j:Nat) o,ops.toArray[j]? = some o→dstB M o=true) (hdraw:drawF env ban base ops=true) {Q:PS→Prop} {Q' : Exit→Act→World→Prop} (hQ:∀σ a w,Q σ→Rel Φ0 W M σ a w→Q' .normal a w) {r:Option Nat} :
  ∀(fuel:Nat) (listed:Array Bool) (σ:PS) (a:Act) (w:World),unlisted listed≤fuel→listed.size=ops.length→(∀(i:Nat) o,ops[i]? = some o→listed.getD i false=true→∀j,depO o j=true→listed.getD j false=true) →
   PWops P T ops.toArray base (okF env ban ops base) ((indexed 0 ops).filter fun x => !listed.getD x.1 false) Q σ→Rel Φ0 W M σ a w→wpAnyIn (FW r) 0 P .any ops.toArray Q' fuel listed a w:=by
 obtain ⟨hE,hI⟩:=draw_partsF hdraw
 have hsz:∀listed:Array Bool,listed.size=ops.length→listed.size=ops.toArray.size:=fun l h=>by simpa using h
 have fin:∀(listed:Array Bool) (σ:PS) (a:Act) (w:World),listed.size=ops.length→(∀i,i < ops.length→listed.getD i false=true) →
   PWops P T ops.toArray base (okF env ban ops base) ((indexed 0 ops).filter fun x => !listed.getD x.1 false) Q σ→Rel Φ0 W M σ a w→Q' .normal a w:=by
  intro listed σ a w hs hl h hr
  have:((indexed 0 ops).filter fun x => !listed.getD x.1 false) = []:=by
   rw [List.filter_eq_nil_iff]
   intro x hx
   obtain ⟨-,h2⟩:=indexed_mem 0 ops x hx
   have:x.1 < ops.length:=by have:=(List.getElem?_eq_some_iff.1 h2).1;omega
   simp [hl x.1 this]
  rw [this] at h
  exact hQ σ a w h hr
 have alls:∀listed:Array Bool,listed.size=ops.length→Region.ready .any ops.toArray listed = []→∀i,i < ops.length→listed.getD i false=true:=by
  intro listed hs hr i
  induction i using Nat.strongRecOn with
  |_ i ih=>
   intro hi
   have ho:ops.toArray[i]? = some ops[i]:=by simp [hi]
   cases hl:listed.getD i false with
   |true=>rfl
   |false=>
    have:i∈Region.ready .any ops.toArray listed:=(mem_ready (hsz listed hs)).2 ⟨ops[i],ho,hl,fun j hj=>by
     obtain ⟨e,he,hb,rfl⟩:=depO_iff.1 hj
     have:=hE i ops[i] (by simp [hi]) e he hb
     exact ih e.on this (by omega)⟩
    rw [hr] at this;cases this
 intro fuel
 induction fuel with
 |zero=>
  intro listed σ a w hu hs hcl h hr
  have hl:=unlisted_zero (Nat.le_zero.1 hu)
  rw [hs] at hl
  refine ⟨?_,fin listed σ a w hs hl h hr⟩
  apply List.eq_nil_iff_forall_not_mem.2
  intro i hi
  obtain ⟨o,ho,h1,_⟩:=(mem_ready (hsz listed hs)).1 hi
  rw [hl i (by have:=(Array.getElem?_eq_some_iff.1 ho).1;simpa using this)] at h1
  cases h1
 |succ fuel ih=>
  intro listed σ a w hu hs hcl h hr
  refine ⟨fun hrd=>fin listed σ a w hs (alls listed hs hrd) h hr,fun i hi=>?_⟩
  obtain ⟨o,ho,h1,h2⟩:=(mem_ready (hsz listed hs)).1 hi
  have ho' : ops[i]? = some o:=by simpa using ho
  have hil:i < ops.length:=(List.getElem?_eq_some_iff.1 ho').1
  have hmem:(i,o)∈(indexed 0 ops).filter fun x => !listed.getD x.1 false:=by
   rw [List.mem_filter]
   refine ⟨?_,by simp [h1]⟩
   have:∀(l:List Oper) (k i:Nat) o,l[i]? = some o→(k+i,o)∈indexed k l:=by
    intro l
    induction l with
    |nil=>intro k i o h;simp at h
    |cons p l ih=>
     intro k i o h
     cases i with
     |zero=>simp at h;subst h;simp [indexed]
     |succ i=>
      simp at h
      have:=ih (k+1) i o h
      simp only [indexed,List.mem_cons]
      right
      rw [show k+(i+1)=k+1+i by omega];exact this
   have:=this ops 0 i o ho'
   rwa [Nat.zero_add] at this
  obtain ⟨pre,post,hL⟩:=List.append_of_mem hmem
  have hsort:((indexed 0 ops).filter fun x => !listed.getD x.1 false).Pairwise (fun a b=>a.1 < b.1):=(indexed_sorted 0 ops).filter _
  rw [hL] at h hsort
  rw [List.pairwise_append] at hsort
  obtain ⟨-,hs2,hs3⟩:=hsort
  rw [List.pairwise_cons] at hs2
  have hpre:∀y∈pre,y.1 < i:=fun y hy=>hs3 y hy (i,o) (by simp)
  have hpost:∀y∈post,i < y.1:=fun y hy=>hs2.1 y hy
  have hprem:∀y∈pre,ops[y.1]? = some y.2∧listed.getD y.1 false=false:=by
   intro y hy
   have:y∈(indexed 0 ops).filter fun x => !listed.getD x.1 false:=by rw [hL];simp [hy]
   rw [List.mem_filter] at this
   obtain ⟨-,q⟩:=indexed_mem 0 ops y this.1
   exact ⟨by simpa using q,by simpa using this.2⟩
  have hb:=PWops.bubbleF (P:=P) (T:=T) (base:=base) (ok:=okF env ban ops base) (env:=env) (ban:=ban) (eb:=base) (ix:=i) (x:=o) (post:=post) (Q:=Q) pre σ (by
   intro y hy
   obtain ⟨q1,q2⟩:=hprem y hy
   have hlt:=hpre y hy
   have hnc:y.1∉(clos ops).getD i []:=fun hc=>by
    rw [clos_listed hE hcl i o ho' h2 y.1 hc] at q2;cases q2
   have hyl:y.1 < ops.length:=(List.getElem?_eq_some_iff.1 q1).1
   refine ⟨⟨by simpa using (hI i y.1 o y.2 ho' q1 hlt).resolve_left hnc,fun hs j hj1 hj2=>sepF_ok (ops:=ops) q1 ho' (by simpa using hs) j hj1 hj2⟩,by omega,?_,?_⟩
   ·rw [okF,Bool.and_eq_false_iff];left
    simp only [okD,Bool.or_eq_false_iff,decide_eq_false_iff_not]
    refine ⟨⟨by omega,by omega⟩,?_⟩
    rw [Nat.add_sub_cancel_left]
    simpa using hnc
   ·rw [okF,Bool.and_eq_false_iff];left
    simp only [okD,Bool.or_eq_false_iff,decide_eq_false_iff_not]
    refine ⟨⟨by omega,by omega⟩,?_⟩
    rw [Nat.add_sub_cancel_left]
    have:i∉(clos ops).getD y.1 []:=fun hc=>by have:=clos_lt hE y.1 y.2 q1 i hc;omega
    simpa using this) h
  have hset:listed.getD i false=false:=h1
  have hlt:i < listed.size:=by rw [hs];exact hil
  have hrem:pre ++ post=(indexed 0 ops).filter fun x => !(listed.setIfInBounds i true).getD x.1 false:=by
   have e1:((indexed 0 ops).filter fun x => !(listed.setIfInBounds i true).getD x.1 false)=((indexed 0 ops).filter fun x => !listed.getD x.1 false).filter (fun x => !decide (x.1=i)):=by
    rw [List.filter_filter]
    congr 1
    funext x
    rw [getD_set _ _ _ hlt]
    cases listed.getD x.1 false<;>simp
   rw [e1,hL,List.filter_append,List.filter_cons]
   have e2:pre.filter (fun x => !decide (x.1=i))=pre:=List.filter_eq_self.2 (fun y hy=>by have:=hpre y hy;simp;omega)
   have e3:post.filter (fun x => !decide (x.1=i))=post:=List.filter_eq_self.2 (fun y hy=>by have:=hpost y hy;simp;omega)
   rw [e2,e3]
   simp
  have hcl' : ∀(k:Nat) p,ops[k]? = some p→(listed.setIfInBounds i true).getD k false=true→∀j,depO p j=true→(listed.setIfInBounds i true).getD j false=true:=by
   intro k p hp hk j hj
   rw [getD_set _ _ _ hlt] at hk ⊢
   simp only [Bool.or_eq_true,decide_eq_true_eq] at hk ⊢
   rcases hk with rfl|hk
   ·rw [ho'] at hp;cases hp;exact .inr (h2 j hj)
   ·exact .inr (hcl k p hp hk j hj)
  have hstep:=op_sound (Φ0:=Φ0) (W:=W) (M:=M) hT hall (base:=base) hbase ho (K':=wpAnyIn (FW r) 0 P .any ops.toArray Q' fuel (listed.setIfInBounds i true)) (Q':=Q') (fun σ' a' w' hk hr' => ih (listed.setIfInBounds i true) σ' a' w' (by have:=unlisted_set listed i hlt hset;omega) (by simpa using hs) hcl' (by rw [←hrem];exact hk) hr') hb hr
  unfold wpOpIn
  rw [ho]
  simp only
  split
  ·rename_i hw;rw [if_pos hw] at hstep;exact wpIn_of_wp (dstB_defer (hall i o ho)) hstep
  ·rename_i hw;rw [if_neg hw] at hstep;exact ⟨fun _ _=>trivial,hstep⟩
theorem PW.drawF (ban:Nat→Nat→Bool) {Q:Exit→PS→Prop} {σ:PS} (hT:T=tabOf P) (hm:P.follows .mixedOrders=true) {id:Nat} (hall2:(ops.all (dstB M) && Nat.ble (1000 * id+ops.length) 1000000)=true) (hd:drawF (envOf σ) ban (1000 * id) ops=true)
  (h:PWops P T ops.toArray (1000 * id) (okF (envOf σ) ban ops (1000 * id)) (indexed 0 ops) (Q .normal) σ):PW P M (.region id ops.toArray true) Q σ:=by
 intro Φ0 W a w hr
 have hall2':=hall2
 simp only [Bool.and_eq_true] at hall2'
 obtain ⟨hall,hb0⟩:=hall2'
 have hbase:=Nat.le_of_ble_eq_true hb0
 refine wpIn_region_any hm ?_
 obtain ⟨Φ,μ,ω,hg⟩:=hr
 refine any_soundF (Φ0:=Φ0) (W:=W) (M:=M) (base:=1000 * id) (env:=envOf σ) (ban:=ban) (Q:=Q .normal) hT (by simpa using hbase) (by
  intro j o hj
  exact List.all_eq_true.1 hall o (mem_of_get (by simpa using hj))) hd (fun σ a w hq hrel=>⟨_,Φ0,W,hq,Later.refl _ _,hrel⟩) _ _ σ a _ ?_ (by simp) ?_ ?_ ⟨Φ,μ,ω,hg.drew⟩
 ·unfold unlisted
  exact Nat.le_trans List.countP_le_length (by simp)
 ·intro i o ho hl
  simp [Array.getD_eq_getD_getElem?,Array.getElem?_replicate] at hl
  split at hl<;>simp_all
 ·have:((indexed 0 ops).filter fun x => !(Array.replicate ops.toArray.size false).getD x.1 false)=indexed 0 ops:=by
   rw [List.filter_eq_self]
   intro x _
   simp [Array.getD_eq_getD_getElem?,Array.getElem?_replicate]
   split<;>rfl
  rw [this]
  exact h
end
section
open Go.RowKit
open Classical in
noncomputable def freshI (I0 Φ:Imm) (ω:Nat→Option Who):Imm:=fun b o=>if ∃p,ω b=some p then I0 b o else Φ b o
theorem freshI_eq {I0 Φ:Imm} {ω:Nat→Option Who} {b o:Nat} (h:∀p,ω b≠some p):freshI I0 Φ ω b o=Φ b o:=by
 unfold freshI
 rw [if_neg]
 rintro ⟨p,e⟩
 exact h p e
theorem freshI_own {I0 Φ:Imm} {ω:Nat→Option Who} {b o:Nat} (h:∃p,ω b=some p):freshI I0 Φ ω b o=I0 b o:=by
 unfold freshI
 rw [if_pos h]
end
section
open Go.RowKit
variable {Φ0:Ent} {W:World} {M:Nat} {Φ:Imm} {μ:Nat→Option Nat} {ω:Nat→Option Who} {σ:PS} {a:Act} {w:World} {P:Program}
theorem RelG.freshSub (h:RelG Φ0 W M Φ μ ω σ a w) {b o:Nat} {u:Value} (e:freshI Φ0.imm Φ ω b o=some u):Φ b o=some u:=by
 unfold freshI at e
 split at e
 ·exact (h.ext b o u e).1
 ·exact e
theorem RelG.freshGlob (h:RelG Φ0 W M Φ μ ω σ a w):GlobOK (freshI Φ0.imm Φ ω):=by
 intro x hx j z e
 unfold freshI
 split
 ·exact Φ0.glob x hx j z e
 ·exact h.glob x hx j z e
theorem RelG.freshMix (h:RelG Φ0 W M Φ μ ω σ a w) {g:Nat} (hg:∃p,ω g=some p):Mix (freshI Φ0.imm Φ ω) g:=by
 have hm:Mix Φ0.imm g:=by
  obtain ⟨p,e⟩:=hg
  rcases h.mine g p e with h' | h'
  ·intro o u e'; have:=(h.ext g o u e').2;omega
  ·exact Φ0.fl g h'
 intro o u e
 rw [freshI_own hg] at e
 obtain ⟨o',u',e1,e2⟩:=hm o u e
 exact ⟨o',u',by rw [freshI_own hg];exact e1,e2⟩
noncomputable def RelG.freshE (h:RelG Φ0 W M Φ μ ω σ a w) (mu:Nat→Option Nat):Ent:=
 ⟨freshI Φ0.imm Φ ω,fun g=>∃p,ω g=some p,mu,h.freshGlob,fun _ hg=>h.freshMix hg,Φ0.marks,Φ0.round⟩
theorem RelG.rebase (h:RelG Φ0 W M Φ μ ω σ a w) {Φ1:Ent} {W1:World} (hb:Kept (Old Φ1 W1) W1 w) (hd:a.defers=Φ1.marks.map collD∧RndOK Φ1 W1) (ho:∀b o,Old Φ1 W1 b→Φ b o=Φ1.imm b o)
  (hg:∀id g,Φ1.mu id=some g→1000000≤id) (hk:∀id g,Φ1.mu id=some g→(σ.b id≠none∨σ.m id≠none)→μ id=some g) (he:∀b o u,Φ1.imm b o=some u→Φ b o=some u∧b < W1.heap.size) (hm:∀g p,ω g=some p→Mine Φ1 W1 g):RelG Φ1 W1 M Φ μ ω σ a w:=
 ⟨hb,hd,h.size,h.imm,ho,h.tmps,fun t n k cs E e=>(h.own t n k cs E e).inB (fun g e=>hm g _ e),fun id bs e=>(h.box id bs e).inB (fun g q _ e=>hm g q e),h.gone,h.lt,hg,hk,he,fun id X e=>(h.map id X e).inB (fun g q _ e=>hm g q e),hm⟩
theorem RelG.noOld (h:RelG Φ0 W M Φ μ ω σ a w) {b:Nat} (hb:Old Φ0 W b):∀p,ω b≠some p:=fun p e=>(h.mine b p e).ne hb rfl
theorem RelG.rnd (h:RelG Φ0 W M Φ μ ω σ a w) {l:Nat} (e:Φ0.round=some l):l < w.heap.size∧(∀p,ω l≠some p)∧∃r,w.heap[l]? = some (.loop r):=by
 obtain ⟨h1,r,h2⟩:=h.defers.2 l e
 exact ⟨Nat.lt_of_lt_of_le h1.1 h.below.size,h.noOld h1,r,(h.below.block l h1).trans h2⟩
theorem RelG.fresh0 (h:RelG Φ0 W M Φ μ ω σ a w) {mu:Nat→Option Nat} (hg:∀id g,mu id=some g→1000000≤id) (hk:∀id g,mu id=some g→(σ.b id≠none∨σ.m id≠none)→μ id=some g):RelG (h.freshE mu) w M Φ μ ω σ a w:=by
 refine h.rebase (Kept.refl _ _) ⟨h.defers.1,fun l e=>?_⟩ (fun b o hb=>(freshI_eq fun p e=>hb.2 ⟨p,e⟩).symm) hg hk (fun b o u e=>⟨h.freshSub e,RelG.fresh h (h.freshSub e)⟩) (fun g p e=>.inr ⟨p,e⟩)
 obtain ⟨h1,h2,h3⟩:=h.rnd e
 exact ⟨⟨h1,fun ⟨p,hp⟩=>h2 p hp⟩,h3⟩
structure Since (Φ:Imm) (ω:Nat→Option Who) (w:World) (Φ' : Imm) (ω' : Nat→Option Who) (w' : World):Prop where
 kept:Kept (fun b=>b < w.heap.size∧∀p,ω b≠some p) w w'
 own:∀g p,ω' g=some p→(∃q,ω g=some q)∨w.heap.size≤g
 imm:∀b o,b < w.heap.size→(∀p,ω b≠some p)→Φ' b o=Φ b o
theorem RelG.since (h:RelG Φ0 W M Φ μ ω σ a w) {mu:Nat→Option Nat} {Φ2:Ent} {W2:World} (hl:Later (h.freshE mu) w Φ2 W2) {M' : Nat} {Φ' : Imm} {μ' : Nat→Option Nat} {ω' : Nat→Option Who} {σ' : PS} {a' : Act} {w' : World} (k:RelG Φ2 W2 M' Φ' μ' ω' σ' a' w'):Since Φ ω w Φ' ω' w':=by
 have hold:∀b,b < w.heap.size→(∀p,ω b≠some p)→Old (h.freshE mu) w b:=fun b h1 h2=>⟨h1,fun ⟨p,e⟩=>h2 p e⟩
 refine ⟨(hl.kept.trans (k.below.mono hl.old)).mono fun b hb=>hold b hb.1 hb.2,fun g p e=>?_,fun b o h1 h2=>?_⟩
 ·rcases hl.mine g (k.mine g p e) with h|h
  ·exact .inr h
  ·exact .inl h
 ·rw [k.old b o (hl.old b (hold b h1 h2)),hl.imm]
  exact freshI_eq h2
theorem RelG.unfresh (h:RelG Φ0 W M Φ μ ω σ a w) {Φ2:Ent} {W2:World} (hl:Later (h.freshE Φ0.mu) w Φ2 W2) {Φ' : Imm} {μ' : Nat→Option Nat} {ω' : Nat→Option Who} {σ' : PS} {a' : Act} {w' : World} (k:RelG Φ2 W2 M Φ' μ' ω' σ' a' w') :
  ∃Φ3 W3,Later Φ0 W Φ3 W3∧Φ3.marks=Φ2.marks∧RelG Φ3 W3 M Φ' μ' ω' σ' a' w':=by
 have hs:=h.since hl k
 obtain ⟨ms,e1,n1,h1⟩:=hl.marks
 have hsz:w.heap.size≤W2.heap.size:=hl.kept.size
 have hWw:=h.below.size
 have hext:∀b o u,Φ0.imm b o=some u→b < W.heap.size:=fun b o u e=>(h.ext b o u e).2
 have hmine2:∀g,Mine Φ2 W2 g→Mine Φ0 W g:=fun g hg=>by
  rcases hl.mine g hg with h' | ⟨p,h'⟩
  ·exact .inl (Nat.le_trans hWw h')
  ·exact h.mine g p h'
 let Φ3:Ent:=⟨Φ0.imm,fun g=>Mine Φ0 W g∧g < W2.heap.size∧g∉ms,Φ0.mu,Φ0.glob,fun g hg=>by
  rcases hg.1 with h' | h'
  ·intro o u e;have:=hext g o u e;omega
  ·exact Φ0.fl g h',Φ2.marks,Φ0.round⟩
 have holdc:∀b,Old Φ3 W2 b→Old Φ0 W b∨b∈ms:=by
  rintro b ⟨hb1,hb2⟩
  by_cases hm:b∈ms
  ·exact .inr hm
  ·left
   by_cases hmi:Mine Φ0 W b
   ·exact absurd ⟨hmi,hb1,hm⟩ hb2
   ·exact ⟨Nat.lt_of_not_le fun hh=>hmi (.inl hh),fun hh=>hmi (.inr hh)⟩
 have hold0:∀b,Old Φ0 W b→b < w.heap.size∧∀p,ω b≠some p:=fun b hb=>⟨Nat.lt_of_lt_of_le hb.1 hWw,h.noOld hb⟩
 have hold3:∀b,Old Φ0 W b→Old Φ3 W2 b:=fun b hb=>⟨Nat.lt_of_lt_of_le (hold0 b hb).1 hsz,fun hh=>hh.1.ne hb rfl⟩
 have holdf:∀b,Old Φ0 W b→Old Φ2 W2 b:=fun b hb=>hl.old b ⟨(hold0 b hb).1,fun ⟨p,e⟩=>(hold0 b hb).2 p e⟩
 have hkW2:Kept (Old Φ0 W) W W2:=h.below.trans (hl.kept.mono fun b hb=>⟨(hold0 b hb).1,fun ⟨p,e⟩=>(hold0 b hb).2 p e⟩)
 have hms:∀m∈ms,Old Φ3 W2 m:=fun m hm=>⟨(h1 m hm).2.1.1,fun hh=>hh.2.2 hm⟩
 have hlat:Later Φ0 W Φ3 W2:=by
  refine ⟨rfl,rfl,rfl,hkW2,hold3,fun g hg=>?_,fun b hb=>(holdc b hb).imp id (fun h=>by show b∈Φ2.marks;rw [e1];exact List.mem_append.2 (.inl h)),fun _=>hext,ms,e1,n1,fun m hm=>⟨Nat.le_trans hWw (h1 m hm).1,hms m hm,(h1 m hm).2.2⟩⟩
  rcases hg with h' | h'
  ·exact .inl (Nat.le_trans hkW2.size h')
  ·exact h'.1
 refine ⟨Φ3,W2,hlat,rfl,k.rebase (k.below.mono fun b hb=>?_) ⟨k.defers.1,fun l e=>?_⟩ (fun b o hb=>?_) h.gmu (fun i g e hi=>?_) (fun b o u e=>?_) (fun g p e=>?_)⟩
 ·rcases holdc b hb with h' | h'
  ·exact holdf b h'
  ·exact (h1 b h').2.1
 ·obtain ⟨q1,r,q2⟩:=h.defers.2 l e
  exact ⟨hold3 l q1,r,(hkW2.block l q1).trans q2⟩
 ·rcases holdc b hb with h' | h'
  ·rw [hs.imm b o (hold0 b h').1 (hold0 b h').2]
   exact h.old b o h'
  ·have e1:Φ' b o=none:=by
    cases hh:Φ' b o with
    |none=>rfl
    |some u=>
     have:=k.imm b o u hh
     have hd:=(k.below.block b (h1 b h').2.1).trans (h1 b h').2.2
     simp only [World.cell?,hd] at this
     cases this
   have e2:Φ0.imm b o=none:=by
    cases hh:Φ0.imm b o with
    |none=>rfl
    |some u=>have:=hext b o u hh;have:=(h1 b h').1;omega
   show _=Φ0.imm b o
   rw [e1,e2]
 ·exact k.kmu i g (by rw [hl.mu];exact e) hi
 ·have h3:=h.ext b o u e
  refine ⟨?_,Nat.lt_of_lt_of_le h3.2 hkW2.size⟩
  by_cases hω:∃p,ω b=some p
  ·refine (k.ext b o u ?_).1
   rw [hl.imm]
   exact (freshI_own hω).trans e
  ·rw [hs.imm b o (Nat.lt_of_lt_of_le h3.2 hWw) (fun p e=>hω ⟨p,e⟩)]
   exact h3.1
 ·have hm:=k.mine g p e
  by_cases hlt:g < W2.heap.size
  ·refine .inr ⟨hmine2 g hm,hlt,fun hh=>?_⟩
   exact hm.ne (h1 g hh).2.1 rfl
  ·exact .inl (Nat.le_of_not_lt hlt)
end
section
open Go.RowKit
abbrev Come:=Option (List (List PV))
noncomputable def offI (Φ:Imm) (ω:Nat→Option Who):Imm:=freshI (fun _ _=>none) Φ ω
theorem offI_some {Φ:Imm} {ω:Nat→Option Who} {b o:Nat} {u:Value} : offI Φ ω b o=some u↔(∀p,ω b≠some p)∧Φ b o=some u:=by
 unfold offI
 constructor
 ·intro h
  by_cases hh:∃p,ω b=some p
  ·rw [freshI_own hh] at h;cases h
  ·have:∀p,ω b≠some p:=fun p e=>hh ⟨p,e⟩
   rw [freshI_eq this] at h
   exact ⟨this,h⟩
 ·rintro ⟨h1,h2⟩
  rw [freshI_eq h1];exact h2
structure ItEnv where
 J:Come→(Nat→Prop)→Imm→World→Prop
 step:∀{κ:Come} {I I' : Nat→Prop} {K K' : Imm} {w w' : World},J κ I K w→Kept (fun b=>b < w.heap.size∧¬I b) w w'→(∀g,I' g→I g∨w.heap.size≤g)→(∀b o u,K b o=some u→I b→K' b o=some u)→(∀b o u,K' b o=some u→w'.cell? ⟨b,o,none⟩=some u)→J κ I' K' w'
def YOK (P:Program) (E:ItEnv) (l:Nat) (A:List (List PV)→Prop) (Φe:Imm) (B0:Nat):Prop:=
 ∀(pre:List (List PV)) (x:List PV) (I:Nat→Prop) (K:Imm) (w1:World) (vs:List Value),A (pre ++ [x])→E.J (some pre) I K w1→(∀g,I g→B0≤g∧g < w1.heap.size)→(∀b o u,K b o=some u→w1.cell? ⟨b,o,none⟩=some u)→(∀b o,b < B0→K b o=Φe b o)→(∀b o u,B0≤b→K b o=some u→I b) →
  GlobOK K→RepL K mu0 x vs→YieldAt (FW none) 0 P l vs.toArray w1 fun e w2=>∃b:Bool,e = .returned (.bool b)∧E.J (if b then some (pre ++ [x]) else none) I K w2∧Kept (fun g=>I g∨(g < B0∧¬Mix Φe g)) w1 w2∧(∀b o u,K b o=some u→w2.cell? ⟨b,o,none⟩=some u)
def ItSpec (P:Program) (f:FuncId) (caps:List PV) (A S:List (List PV)→Prop):Prop:=
 callB P f=true∧∀(E:ItEnv) (l:Nat) (Φe:Imm) (w:World) (vs:List Value),(∀b o u,Φe b o=some u→w.cell? ⟨b,o,none⟩=some u)→GlobOK Φe→RepL Φe mu0 caps vs→YOK P E l A Φe w.heap.size→E.J (some []) (fun _=>False) Φe w →
  Calls P f (#[.func (.yield l) #[] #[]] ++ vs.toArray) w fun e w' => ∃v κ K,e = .returned v∧(∀xs,κ=some xs→S xs)∧E.J κ (fun _=>False) K w'
def RelJ (E:ItEnv) (Φ0:Ent) (W:World) (M:Nat) (κ:Come) (σ:PS) (a:Act) (w:World):Prop:=
 ∃Φ1 W1 Φ μ ω I,Later Φ0 W Φ1 W1∧RelG Φ1 W1 M Φ μ ω σ a w∧E.J κ I (offI Φ ω) w∧(∀g,I g→W.heap.size≤g∧g < w.heap.size)∧(∀g p,ω g=some p→I g)∧(∀b o u,W.heap.size≤b→Φ b o=some u→I b)∧(∀b o,b < W.heap.size→Φ b o=Φ0.imm b o)∧(∀m∈Φ1.marks,I m)
end
section
open Go.RowKit
variable {E:ItEnv} {Φ0:Ent} {W:World} {M:Nat} {κ:Come} {σ:PS} {a:Act} {w:World} {P:Program} {T:Tab}
theorem RelJ.go (h:RelJ E Φ0 W M κ σ a w):∃Φf:Ent,Φf.round=Φ0.round∧Rel Φf w M σ a w∧∀Φ2 W2 σ' a' w',Later Φf w Φ2 W2→Rel Φ2 W2 M σ' a' w'→RelJ E Φ0 W M κ σ' a' w':=by
 obtain ⟨Φ1,W1,Φ,μ,ω,I,hl,hg,hJ,h1,h2,h3,h4,h5⟩:=h
 refine ⟨hg.freshE Φ1.mu,hl.round,⟨Φ,μ,ω,hg.fresh0 hg.gmu hg.kmu⟩,?_⟩
 rintro Φ2 W2 σ' a' w' hl2 ⟨Φ',μ',ω',k⟩
 have hs:=hg.since hl2 k
 obtain ⟨Φ3,W3,hl3,em,k3⟩:=hg.unfresh hl2 k
 have hWw:W.heap.size≤w.heap.size:=Nat.le_trans hl.kept.size hg.below.size
 have hww:w.heap.size≤w'.heap.size:=hs.kept.size
 have hωn:∀b,b < W.heap.size→∀p,ω b≠some p:=fun b hb p e=>by have:=(h1 b (h2 b p e)).1;omega
 refine ⟨Φ3,W3,Φ',μ',ω',fun g=>I g∨(w.heap.size≤g∧g < w'.heap.size),hl.trans hl3,k3,?_,fun g hg' => ?_,fun g p e=>?_,fun b o u hb e=>?_,fun b o hb=>?_,fun m hm=>?_⟩
 ·refine E.step hJ (hs.kept.mono fun b hb=>⟨hb.1,fun p e=>hb.2 (h2 b p e)⟩) (fun g hg' => hg'.imp id (fun h=>h.1)) (fun b o u e hI=>?_) (fun b o u e=>k.imm b o u (offI_some.1 e).2)
  obtain ⟨e1,e2⟩:=offI_some.1 e
  have hb:=(h1 b hI).2
  refine offI_some.2 ⟨fun p ep=>?_,by rw [hs.imm b o hb e1];exact e2⟩
  rcases hs.own b p ep with ⟨q,hq⟩|hq
  ·exact e1 q hq
  ·omega
 ·rcases hg' with h' | h'
  ·exact ⟨(h1 g h').1,Nat.lt_of_lt_of_le (h1 g h').2 hww⟩
  ·exact ⟨Nat.le_trans hWw h'.1,h'.2⟩
 ·rcases hs.own g p e with ⟨q,hq⟩|hq
  ·exact .inl (h2 g q hq)
  ·exact .inr ⟨hq,k.lt g p e⟩
 ·by_cases hlt:b < w.heap.size
  ·left
   by_cases hω:∃p,ω b=some p
   ·obtain ⟨p,hp⟩:=hω;exact h2 b p hp
   ·rw [hs.imm b o hlt (fun p e=>hω ⟨p,e⟩)] at e
    exact h3 b o u hb e
  ·exact .inr ⟨Nat.le_of_not_lt hlt,RelG.fresh k e⟩
 ·rw [hs.imm b o (Nat.lt_of_lt_of_le hb hWw) (hωn b hb)]
  exact h4 b o hb
 ·rw [em] at hm
  obtain ⟨ms,e1,-,k1⟩:=hl2.marks
  rw [e1] at hm
  rcases List.mem_append.1 hm with hm|hm
  ·exact .inr ⟨(k1 m hm).1,Nat.lt_of_lt_of_le (k1 m hm).2.1.1 k.below.size⟩
  ·exact .inl (h5 m hm)
theorem RelJ.sub {σ' : PS} (h:RelJ E Φ0 W M κ σ a w) (hs:Sub M σ σ'):RelJ E Φ0 W M κ σ' a w:=by
 obtain ⟨Φf,-,hr,k⟩:=h.go
 exact k Φf w σ' a w (Later.refl _ _) (hs _ _ _ _ hr)
theorem RelJ.ev (h:RelJ E Φ0 W M κ σ a w) {c:Operand} {v:Value} (hc:pev σ c = .val v):a.eval c=v:=by
 obtain ⟨Φ1,W1,Φ,μ,ω,I,hl,hg,-⟩:=h
 have:=hg.ev c
 rw [hc] at this
 exact this.val_inv.1
def PWJ (E:ItEnv) (Φ0:Ent) (W:World) (P:Program) (M:Nat) (c:Code) (Q:Exit→PS→Come→Prop) (σ:PS) (κ:Come):Prop:=
 ∀a w,RelJ E Φ0 W M κ σ a w→c.wpIn (FW Φ0.round) 0 P (fun e a' w' => ∃σ' κ',Q e σ' κ'∧RelJ E Φ0 W M κ' σ' a' w') a w
end
section
open Go.RowKit
variable {E:ItEnv} {Φ0:Ent} {W:World} {M:Nat} {κ:Come} {σ:PS} {a:Act} {w:World} {P:Program} {T:Tab}
variable {Q:Exit→PS→Come→Prop}
theorem PWJ.of_pw {c:Code} (h:PW P M c (fun e σ' => Q e σ' κ) σ):PWJ E Φ0 W P M c Q σ κ:=by
 intro a w hr
 obtain ⟨Φf,e1,hr',k⟩:=hr.go
 have:=h Φf w a w hr'
 rw [e1] at this
 exact wpIn_mono this fun e a' w' ⟨σ',Φ2,W2,hq,hl,hr2⟩=>⟨σ',κ,hq,k Φ2 W2 σ' a' w' hl hr2⟩
theorem PWJ.sub {c:Code} {σ' : PS} (h:PWJ E Φ0 W P M c Q σ' κ) (hs:Sub M σ σ'):PWJ E Φ0 W P M c Q σ κ:=fun a w hr=>h a w (hr.sub hs)
def ThenJ (E:ItEnv) (Φ0:Ent) (W:World) (P:Program) (M:Nat) (y:Code) (Q:Exit→PS→Come→Prop):Exit→PS→Come→Prop
 | .normal,σ,κ=>PWJ E Φ0 W P M y Q σ κ
 |e,σ,κ=>Q e σ κ
theorem PWJ.seq {x y:Code} (h:PWJ E Φ0 W P M x (ThenJ E Φ0 W P M y Q) σ κ):PWJ E Φ0 W P M (.seq x y) Q σ κ:=by
 intro a w hr
 refine wpIn_seq (wpIn_mono (h a w hr) ?_)
 rintro e a' w' ⟨σ',κ',hq,hr'⟩
 cases e with
 |normal=>exact hq a' w' hr'
 |_=>exact ⟨σ',κ',hq,hr'⟩
def BlockJ (id:Nat) (Q:Exit→PS→Come→Prop):Exit→PS→Come→Prop
 | .exit i,σ,κ=>if i=id then Q .normal σ κ else Q (.exit i) σ κ
 |e,σ,κ=>Q e σ κ
theorem PWJ.block {id:Nat} {c:Code} (h:PWJ E Φ0 W P M c (BlockJ id Q) σ κ):PWJ E Φ0 W P M (.block id c) Q σ κ:=by
 intro a w hr
 refine wpIn_block (wpIn_mono (h a w hr) ?_)
 rintro e a' w' ⟨σ',κ',h1,h2⟩
 cases e with
 |exit i=>
  simp only [BlockJ] at h1
  simp only [Exit.inBlock]
  split at h1
  ·rename_i e;simp only [e,if_true];exact ⟨σ',κ',h1,h2⟩
  ·rename_i e;simp only [e,if_false];exact ⟨σ',κ',h1,h2⟩
 |_=>exact ⟨σ',κ',h1,h2⟩
theorem PWJ.cond {c:Operand} {x y:Code} {b:Bool} (hc:pev σ c = .val (.bool b)) (h:PWJ E Φ0 W P M (if b then x else y) Q σ κ):PWJ E Φ0 W P M (.cond c x y) Q σ κ:=
 fun a w hr=>wpIn_cond (hr.ev hc) (h a w hr)
theorem PWJ.skip (h:Q .normal σ κ):PWJ E Φ0 W P M .skip Q σ κ:=PWJ.of_pw (PW.skip h)
theorem PWJ.ret (h:Q .ret σ κ):PWJ E Φ0 W P M .ret Q σ κ:=PWJ.of_pw (PW.ret h)
theorem PWJ.exit {i:Nat} (h:Q (.exit i) σ κ):PWJ E Φ0 W P M (.exit i) Q σ κ:=PWJ.of_pw (PW.exit h)
def LoopJ {α:Type} (M:Nat) (st:α→PS) (kf:α→Come) (I:α→Prop) (m:α→Nat) (x:α) (Q:Exit→PS→Come→Prop):Exit→PS→Come→Prop
 | .normal,σ,κ=>∃y,I y∧m y < m x∧Sub M σ (st y)∧κ=kf y
 |e,σ,κ=>Q e σ κ
theorem PWJ.loop {α:Type} {c:Code} (st:α→PS) (kf:α→Come) (I:α→Prop) (m:α→Nat) (x0:α) (hi:I x0) (h0:Sub M σ (st x0)) (hk:κ=kf x0) (round:∀x,I x→PWJ E Φ0 W P M c (LoopJ M st kf I m x Q) (st x) (kf x)):PWJ E Φ0 W P M (.loop c) Q σ κ:=by
 intro a w hr b k cs hro hb hroom
 have key:∀n x a w,m x=n→I x→RelJ E Φ0 W M (kf x) (st x) a w→∃e a' w',(∃σ' κ',Q e σ' κ'∧RelJ E Φ0 W M κ' σ' a' w')∧ArrivesIn (Machine.fenced P (FW Φ0.round)) P (lone (b.atR a (.code c :: .inLoop c :: k)) cs w) b k cs e a' w':=by
  intro n
  induction n using Nat.strongRecOn with
  |_ n ih=>
   intro x a w hn hi' hI
   obtain ⟨e,a₁,w₁,⟨σ₁,κ₁,hq,hrel⟩,harr⟩:=round x hi' a w hI b (.inLoop c :: k) cs hro hb hroom
   cases e with
   |normal=>
    obtain ⟨y,hy,hlt,hsub,rfl⟩:=hq
    obtain ⟨e₂,a₂,w₂,hq₂,harr₂⟩:=ih (m y) (hn ▸ hlt) y a₁ w₁ rfl hy (hrel.sub hsub)
    exact ⟨e₂,a₂,w₂,hq₂, .of_steps (StepsIn.trans harr (.one (fenced_calm hb hroom rfl) stepR_inLoop)) harr₂⟩
   |exit id=>exact ⟨_,a₁,w₁,⟨σ₁,κ₁,hq,hrel⟩, .pass (x:=.inLoop c) rfl (fun _ _=>.inl (by simp)) harr⟩
   |goto l=>exact ⟨_,a₁,w₁,⟨σ₁,κ₁,hq,hrel⟩, .pass (x:=.inLoop c) rfl (fun _ _=>.inl (by simp)) harr⟩
   |ret=>exact ⟨_,a₁,w₁,⟨σ₁,κ₁,hq,hrel⟩, .pass (x:=.inLoop c) rfl (fun _ _=>.inl (by simp)) harr⟩
   |panic ch=>exact ⟨_,a₁,w₁,⟨σ₁,κ₁,hq,hrel⟩, .pass (x:=.inLoop c) rfl (fun _ _=>.inl (by simp)) harr⟩
   |outgrown=>exact ⟨_,a₁,w₁,⟨σ₁,κ₁,hq,hrel⟩, .pass (x:=.inLoop c) rfl (fun _ _=>.inl (by simp)) harr⟩
 subst hk
 obtain ⟨e,a',w',hq,harr⟩:=key _ x0 a w rfl hi (hr.sub h0)
 exact ⟨e,a',w',hq, .of_steps (.one (fenced_calm hb hroom rfl) stepR_loop) harr⟩
structure YAt (l:Nat) (A:List (List PV)→Prop) (M:Nat) (pre:List (List PV)) (x:List PV) (o:Oper) (d:Nat) (σ:PS):Prop where
 dst:o.dst=some d
 lt:d < M
 op:∃c y,o.op = .call c∧c.callee = .value y∧pev σ y = .val (.func (.yield l) #[] #[])∧c.args.toList.map (pev σ)=x
 guard:o.guard=none
 low:∀p∈x,Low p
 here:A (pre ++ [x])
 box:∀id bs,σ.b id=some bs→∀c∈bs,c.ownB=false
 map:∀id es c,σ.m id=some (.map es c)→∀e∈es,e.2.2.ownB=false
def ybehind (σ:PS) (d:Nat) (b:Bool):PS:={ t:=upd (fun t=>(σ.t t).bare) d (.val (.bool b)),b:=σ.b,m:=σ.m }
theorem run_ycall {l:Nat} {o:Oper} {c:Call} {y:Operand} (hop:o.op = .call c) (hcal:c.callee = .value y) (hv:a.eval y = .func (.yield l) #[] #[]):(execOp a.eval o).run P w=(Instr.yield l (c.args.toList.map a.eval).toArray).run P w:=by
 have e:(#[]:Array Value) ++ c.args.map a.eval=(c.args.toList.map a.eval).toArray:=by
  apply Array.ext'
  simp
 simp only [execOp,hop,resolve,hcal,hv,Deferred.ofValue,Sem.run_bind,Sem.run_pure,Result.andThen_ok,invoke]
 rw [e]
open Classical in
theorem yield_sound {l d:Nat} {A:List (List PV)→Prop} {pre:List (List PV)} {x:List PV} {o:Oper} (hgiv:∀b,Old Φ0 W b→¬Mix Φ0.imm b) (hy:YOK P E l A Φ0.imm W.heap.size) (hr:Φ0.round=none) (h:RelJ E Φ0 W M (some pre) σ a w) (ha:YAt l A M pre x o d σ)
  {K:Act→World→Prop} {Q' : Exit→Act→World→Prop} (hK:∀(b:Bool) a' w',RelJ E Φ0 W M (if b then some (pre ++ [x]) else none) (ybehind σ d b) a' w'→K a' w'):o.wpIn (FW Φ0.round) 0 P a w K Q':=by
 obtain ⟨Φ1,W1,Φ,μ,ω,I,hl,hg0,hJ,h1,h2,h3,h4,h5⟩:=h
 obtain ⟨c,y,hop,hcal,hyv,hargs⟩:=ha.op
 -- the marks of one's own are given away
 let σ1:PS:={ σ with t:=fun t=>(σ.t t).bare }
 have hg1:RelG Φ1 W1 M Φ μ ω σ1 a w:=hg0.forget _ (fun t=>.inr (.inr (.inl rfl)))
 let ω1:Nat→Option Who:=fun g=>if ∃i,ω g=some (.box i)∧μ i=some g∧(σ.b i≠none∨σ.m i≠none) then ω g else none
 have hω1:∀i g,ω g=some (.box i)→μ i=some g→(σ.b i≠none∨σ.m i≠none)→ω1 g=some (.box i):=fun i g e1 e2 e3=>by
  show (if _ then _ else _)=_
  rw [if_pos ⟨i,e1,e2,e3⟩];exact e1
 have hω2:∀g p,ω1 g=some p→ω g=some p∧∃i,ω g=some (.box i)∧μ i=some g∧(σ.b i≠none∨σ.m i≠none):=by
  intro g p e
  have e' : (if ∃i,ω g=some (.box i)∧μ i=some g∧(σ.b i≠none∨σ.m i≠none) then ω g else none)=some p:=e
  split at e'
  ·rename_i hh;exact ⟨e',hh⟩
  ·cases e'
 have hno1:∀t n k cs E',σ1.t t≠.sl n k cs (some E'):=by
  intro t n k cs E' e
  have h':=PV.bare_own (σ.t t)
  have e' : (σ.t t).bare = .sl n k cs (some E'):=e
  rw [e'] at h'
  simp [PV.ownB] at h'
 have hg:RelG Φ1 W1 M Φ μ ω1 σ1 a w:=by
  refine ⟨hg1.below,hg1.defers,hg1.size,hg1.imm,hg1.old,hg1.tmps,fun t n k cs E' e=>absurd e (hno1 t n k cs E'),fun id bs e=>?_,hg1.gone,fun g p e=>hg1.lt g p (hω2 g p e).1,hg1.gmu,hg1.kmu,hg1.ext,fun id X e=>?_,fun g p e=>hg1.mine g p (hω2 g p e).1⟩
  ·obtain ⟨g,cur,Ty,k1,k2,k3,k4,k5,k6,k7⟩:=hg1.box id bs e
   refine ⟨g,cur,Ty,k1,k2,k3,hω1 id g k4 k1 (.inl (by have e' : σ.b id=some bs:=e;rw [e'];simp)),k5,k6,fun j c' hc=>?_⟩
   obtain ⟨u,r1,r2,r3,-⟩:=k7 j c' hc
   refine ⟨u,r1,r2,r3,fun n k cs E' e' => ?_⟩
   have:=ha.box id bs e c' (mem_of_get hc)
   rw [e'] at this
   simp [PV.ownB] at this
  ·obtain ⟨g,k1,k2,k3,k4,k5⟩:=hg1.map id X e
   refine ⟨g,k1,k2,hω1 id g k3 k1 (.inr (by have e' : σ.m id=some X:=e;rw [e'];simp)),k4,?_⟩
   cases X with
   |map es clock=>
    obtain ⟨e0,ents,e1,e2,e3⟩:=k5
    refine ⟨e0,ents,e1,e2,fun j s k c' hj=>?_⟩
    obtain ⟨en,f1,f2,f3,f4,-⟩:=e3 j s k c' hj
    refine ⟨en,f1,f2,f3,f4,fun n kk cs E' ec=>?_⟩
    have:=ha.map id es clock e _ (mem_of_get hj)
    simp only [ec] at this
    simp [PV.ownB] at this
   |iter=>exact k5
 have hoff:∀g p,ω1 g=some p→∀j,Φ g j=none:=by
  intro g p e j
  obtain ⟨-,i,e1,e2,e3⟩:=hω2 g p e
  rcases e3 with e3|e3
  ·obtain ⟨bs,hbs⟩:=Option.ne_none_iff_exists'.1 e3
   obtain ⟨g',cur,Ty,k1,k2,k3,k4,k5,-⟩:=hg1.box i bs hbs
   rw [e2] at k1;cases k1
   exact k5 j
  ·obtain ⟨X,hX⟩:=Option.ne_none_iff_exists'.1 e3
   obtain ⟨g',k1,k2,k3,k4,-⟩:=hg1.map i X hX
   rw [e2] at k1;cases k1
   exact k4 j
 have hoffI:offI Φ ω1=Φ:=by
  funext b o'
  by_cases hh:∃p,ω1 b=some p
  ·obtain ⟨p,hp⟩:=hh
   rw [hoff b p hp o']
   exact freshI_own ⟨p,hp⟩
  ·exact freshI_eq fun p e=>hh ⟨p,e⟩
 have hJ1:E.J (some pre) I Φ w:=E.step hJ (Kept.refl _ _) (fun g hg' => .inl hg') (fun b o' u e _=>(offI_some.1 e).2) hg.imm
 have hrep:RepL Φ mu0 x (c.args.toList.map a.eval):=by
  refine ⟨by rw [←hargs];simp,fun j p u hp hu=>?_⟩
  have hl':=ha.low p (mem_of_get hp)
  rw [←hargs,List.getElem?_map] at hp
  rw [List.getElem?_map] at hu
  cases hj:c.args.toList[j]? with
  |none=>rw [hj] at hp;cases hp
  |some z=>
   rw [hj] at hp hu
   cases hp;cases hu
   exact (hg0.ev z).low hl'
 have hglob:GlobOK Φ:=hg.glob
 obtain ⟨fn,tmps,assign,body,hrun,hround⟩:=hy pre x I Φ w _ ha.here hJ1 h1 hg.imm h4 h3 hglob hrep
 have hvy:a.eval y = .func (.yield l) #[] #[]:=by
  have:=hg0.ev y
  rw [hyv] at this
  exact this.val_inv.1
 unfold Oper.wpIn
 refine ⟨fun _ _=>trivial,?_⟩
 rw [Oper.semAt_eq _ _ _ (fun c' e=>by rw [hop] at e;cases e),run_ycall hop hcal hvy,hrun]
 refine ⟨(fun e=>by cases e),?_⟩
 rw [hr]
 refine hround.mono ?_
 rintro e w2 ⟨b,rfl,hJ2,hk2,him2⟩
 simp only
 have hWw:W.heap.size≤w.heap.size:=Nat.le_trans hl.kept.size hg.below.size
 have hg2:RelG Φ1 W1 M Φ μ ω1 σ1 a w2:=by
  refine hg.grow (hg.below.trans (hk2.mono fun g hg' => ?_)) him2 (fun _ _ _=>rfl) (fun _ _ _ e=>e) (fun g p e=>⟨hk2.block g (.inl (h2 g p (hω2 g p e).1)),fun _=>rfl⟩) hk2.size
  rcases hl.only g hg' with h' | h'
  ·exact .inr ⟨h'.1,hgiv g h'⟩
  ·exact .inl (h5 g h')
 have hg3:=hg2.put (d:=d) ha.lt (p:=.val (.bool b)) (v:=.bool b) (.val _ rfl) rfl
 rw [ha.dst]
 refine hK b _ _ ⟨Φ1,W1,Φ,μ,ω1,I,hl,hg3,by rw [hoffI];exact hJ2,fun g hg' => ⟨(h1 g hg').1,Nat.lt_of_lt_of_le (h1 g hg').2 hk2.size⟩,fun g p e=>h2 g p (hω2 g p e).1,h3,h4,h5⟩
end
section
open Go.RowKit
variable {M:Nat} {P:Program} {T:Tab} {ops:List Oper} {base:Nat}
theorem any_soundR {R:PS→Act→World→Prop} (hR:∀σ a w,R σ a w→∃Φ0 W,Rel Φ0 W M σ a w∧∀σ' a' w',Rel Φ0 W M σ' a' w'→R σ' a' w') (hT:T=tabOf P) (hbase:base+ops.toArray.size≤1000000) (hall:∀(j:Nat) o,ops.toArray[j]? = some o→dstB M o=true) (hdraw:drawB ops=true) {Q:PS→Prop} {Q' : Exit→Act→World→Prop} (hQ:∀σ a w,Q σ→R σ a w→Q' .normal a w) {r:Option Nat} :
  ∀(fuel:Nat) (listed:Array Bool) (σ:PS) (a:Act) (w:World),unlisted listed≤fuel→listed.size=ops.length→(∀(i:Nat) o,ops[i]? = some o→listed.getD i false=true→∀j,depO o j=true→listed.getD j false=true) →
   PWops P T ops.toArray base (okR ops base) ((indexed 0 ops).filter fun x => !listed.getD x.1 false) Q σ→R σ a w→wpAnyIn (FW r) 0 P .any ops.toArray Q' fuel listed a w:=by
 obtain ⟨hE,hI⟩:=draw_parts hdraw
 have hsz:∀listed:Array Bool,listed.size=ops.length→listed.size=ops.toArray.size:=fun l h=>by simpa using h
 have fin:∀(listed:Array Bool) (σ:PS) (a:Act) (w:World),listed.size=ops.length→(∀i,i < ops.length→listed.getD i false=true) →
   PWops P T ops.toArray base (okR ops base) ((indexed 0 ops).filter fun x => !listed.getD x.1 false) Q σ→R σ a w→Q' .normal a w:=by
  intro listed σ a w hs hl h hr
  have:((indexed 0 ops).filter fun x => !listed.getD x.1 false) = []:=by
   rw [List.filter_eq_nil_iff]
   intro x hx
   obtain ⟨-,h2⟩:=indexed_mem 0 ops x hx
   have:x.1 < ops.length:=by have:=(List.getElem?_eq_some_iff.1 h2).1;omega
   simp [hl x.1 this]
  rw [this] at h
  exact hQ σ a w h hr
 have alls:∀listed:Array Bool,listed.size=ops.length→Region.ready .any ops.toArray listed = []→∀i,i < ops.length→listed.getD i false=true:=by
  intro listed hs hr i
  induction i using Nat.strongRecOn with
  |_ i ih=>
   intro hi
   have ho:ops.toArray[i]? = some ops[i]:=by simp [hi]
   cases hl:listed.getD i false with
   |true=>rfl
   |false=>
    have:i∈Region.ready .any ops.toArray listed:=(mem_ready (hsz listed hs)).2 ⟨ops[i],ho,hl,fun j hj=>by
     obtain ⟨e,he,hb,rfl⟩:=depO_iff.1 hj
     have:=hE i ops[i] (by simp [hi]) e he hb
     exact ih e.on this (by omega)⟩
    rw [hr] at this;cases this
 intro fuel
 induction fuel with
 |zero=>
  intro listed σ a w hu hs hcl h hr
  have hl:=unlisted_zero (Nat.le_zero.1 hu)
  rw [hs] at hl
  refine ⟨?_,fin listed σ a w hs hl h hr⟩
  apply List.eq_nil_iff_forall_not_mem.2
  intro i hi
  obtain ⟨o,ho,h1,_⟩:=(mem_ready (hsz listed hs)).1 hi
  rw [hl i (by have:=(Array.getElem?_eq_some_iff.1 ho).1;simpa using this)] at h1
  cases h1
 |succ fuel ih=>
  intro listed σ a w hu hs hcl h hr
  refine ⟨fun hrd=>fin listed σ a w hs (alls listed hs hrd) h hr,fun i hi=>?_⟩
  obtain ⟨o,ho,h1,h2⟩:=(mem_ready (hsz listed hs)).1 hi
  have ho' : ops[i]? = some o:=by simpa using ho
  have hil:i < ops.length:=(List.getElem?_eq_some_iff.1 ho').1
  have hmem:(i,o)∈(indexed 0 ops).filter fun x => !listed.getD x.1 false:=by
   rw [List.mem_filter]
   refine ⟨?_,by simp [h1]⟩
   have:∀(l:List Oper) (k i:Nat) o,l[i]? = some o→(k+i,o)∈indexed k l:=by
    intro l
    induction l with
    |nil=>intro k i o h;simp at h
    |cons p l ih=>
     intro k i o h
     cases i with
     |zero=>simp at h;subst h;simp [indexed]
     |succ i=>
      simp at h
      have:=ih (k+1) i o h
      simp only [indexed,List.mem_cons]
      right
      rw [show k+(i+1)=k+1+i by omega];exact this
   have:=this ops 0 i o ho'
   rwa [Nat.zero_add] at this
  obtain ⟨pre,post,hL⟩:=List.append_of_mem hmem
  have hsort:((indexed 0 ops).filter fun x => !listed.getD x.1 false).Pairwise (fun a b=>a.1 < b.1):=(indexed_sorted 0 ops).filter _
  rw [hL] at h hsort
  rw [List.pairwise_append] at hsort
  obtain ⟨-,hs2,hs3⟩:=hsort
  rw [List.pairwise_cons] at hs2
  have hpre:∀y∈pre,y.1 < i:=fun y hy=>hs3 y hy (i,o) (by simp)
  have hpost:∀y∈post,i < y.1:=fun y hy=>hs2.1 y hy
  have hprem:∀y∈pre,ops[y.1]? = some y.2∧listed.getD y.1 false=false:=by
   intro y hy
   have:y∈(indexed 0 ops).filter fun x => !listed.getD x.1 false:=by rw [hL];simp [hy]
   rw [List.mem_filter] at this
   obtain ⟨-,q⟩:=indexed_mem 0 ops y this.1
   exact ⟨by simpa using q,by simpa using this.2⟩
  have hb:=PWops.bubble (P:=P) (T:=T) (base:=base) (ok:=okR ops base) (cl:=clos ops) (ix:=i) (x:=o) (post:=post) (Q:=Q) pre σ (by
   intro y hy
   obtain ⟨q1,q2⟩:=hprem y hy
   have hlt:=hpre y hy
   have hnc:y.1∉(clos ops).getD i []:=fun hc=>by
    rw [clos_listed hE hcl i o ho' h2 y.1 hc] at q2;cases q2
   have hyl:y.1 < ops.length:=(List.getElem?_eq_some_iff.1 q1).1
   refine ⟨⟨by simpa using (hI i y.1 o y.2 ho' q1 hlt).resolve_left hnc,fun hs j hj1 hj2=>sep_ok (ops:=ops) q1 ho' (by simpa using hs) j hj1 hj2⟩,by omega,?_,?_⟩
   ·rw [okR,Bool.and_eq_false_iff];left
    simp only [okD,Bool.or_eq_false_iff,decide_eq_false_iff_not]
    refine ⟨⟨by omega,by omega⟩,?_⟩
    rw [Nat.add_sub_cancel_left]
    simpa using hnc
   ·rw [okR,Bool.and_eq_false_iff];left
    simp only [okD,Bool.or_eq_false_iff,decide_eq_false_iff_not]
    refine ⟨⟨by omega,by omega⟩,?_⟩
    rw [Nat.add_sub_cancel_left]
    have:i∉(clos ops).getD y.1 []:=fun hc=>by have:=clos_lt hE y.1 y.2 q1 i hc;omega
    simpa using this) h
  have hset:listed.getD i false=false:=h1
  have hlt:i < listed.size:=by rw [hs];exact hil
  have hrem:pre ++ post=(indexed 0 ops).filter fun x => !(listed.setIfInBounds i true).getD x.1 false:=by
   have e1:((indexed 0 ops).filter fun x => !(listed.setIfInBounds i true).getD x.1 false)=((indexed 0 ops).filter fun x => !listed.getD x.1 false).filter (fun x => !decide (x.1=i)):=by
    rw [List.filter_filter]
    congr 1
    funext x
    rw [getD_set _ _ _ hlt]
    cases listed.getD x.1 false<;>simp
   rw [e1,hL,List.filter_append,List.filter_cons]
   have e2:pre.filter (fun x => !decide (x.1=i))=pre:=List.filter_eq_self.2 (fun y hy=>by have:=hpre y hy;simp;omega)
   have e3:post.filter (fun x => !decide (x.1=i))=post:=List.filter_eq_self.2 (fun y hy=>by have:=hpost y hy;simp;omega)
   rw [e2,e3]
   simp
  have hcl' : ∀(k:Nat) p,ops[k]? = some p→(listed.setIfInBounds i true).getD k false=true→∀j,depO p j=true→(listed.setIfInBounds i true).getD j false=true:=by
   intro k p hp hk j hj
   rw [getD_set _ _ _ hlt] at hk ⊢
   simp only [Bool.or_eq_true,decide_eq_true_eq] at hk ⊢
   rcases hk with rfl|hk
   ·rw [ho'] at hp;cases hp;exact .inr (h2 j hj)
   ·exact .inr (hcl k p hp hk j hj)
  obtain ⟨Φ0,W,hrel,hbk⟩:=hR σ a w hr
  have hstep:=op_sound (Φ0:=Φ0) (W:=W) (M:=M) hT hall (base:=base) hbase ho (K':=wpAnyIn (FW r) 0 P .any ops.toArray Q' fuel (listed.setIfInBounds i true)) (Q':=Q') (fun σ' a' w' hk hr' => ih (listed.setIfInBounds i true) σ' a' w' (by have:=unlisted_set listed i hlt hset;omega) (by simpa using hs) hcl' (by rw [←hrem];exact hk) (hbk _ _ _ hr')) hb hrel
  unfold wpOpIn
  rw [ho]
  simp only
  split
  ·rename_i hw;rw [if_pos hw] at hstep;exact wpIn_of_wp (dstB_defer (hall i o ho)) hstep
  ·rename_i hw;rw [if_neg hw] at hstep;exact ⟨fun _ _=>trivial,hstep⟩
theorem opsR_sound {R:PS→Act→World→Prop} (hR:∀σ a w,R σ a w→∃Φ0 W,Rel Φ0 W M σ a w∧∀σ' a' w',Rel Φ0 W M σ' a' w'→R σ' a' w') (hT:T=tabOf P) {ops:Array Oper} (hall:∀(j:Nat) o,ops[j]? = some o→dstB M o=true) {base:Nat} (hbase:base+ops.size≤1000000) {ok:Nat→Nat→Bool} {r:Option Nat} {Q:PS→Prop} {Q' : Exit→Act→World→Prop} {tail:List Nat} (hQ:∀σ a w,Q σ→R σ a w→wpOpsIn (FW r) 0 P ops Q' tail a w) :
  ∀(l:List (Nat×Oper)),(∀x∈l,ops[x.1]? = some x.2)→∀(σ:PS) (a:Act) (w:World),PWops P T ops base ok l Q σ→R σ a w→wpOpsIn (FW r) 0 P ops Q' (l.map (·.1) ++ tail) a w
 | [],_,σ,a,w,h,hr=>hQ σ a w h hr
 |(i,o) :: rest,hl,σ,a,w,h,hr=>by
  have hio:ops[i]? = some o:=hl (i,o) (by simp)
  have ih:=opsR_sound hR hT hall hbase (ok:=ok) (r:=r) hQ rest (fun x hx=>hl x (by simp [hx]))
  simp only [List.map_cons,List.cons_append,wpOpsIn,hio]
  obtain ⟨Φ0,W,hrel,hbk⟩:=hR σ a w hr
  have:=op_sound hT hall hbase hio (K':=wpOpsIn (FW r) 0 P ops Q' (rest.map (·.1) ++ tail)) (Q':=Q') (fun σ' a' w' hk hr' => ih σ' a' w' hk (hbk _ _ _ hr')) h hrel
  split
  ·rename_i hw;rw [if_pos hw] at this;exact wpIn_of_wp (dstB_defer (hall i o hio)) this
  ·rename_i hw;rw [if_neg hw] at this;exact ⟨fun _ _=>trivial,this⟩
theorem indexed_len:∀(k:Nat) (l:List Oper),(indexed k l).length=l.length
 |_,[]=>rfl
 |k,o :: r=>by simp [indexed,indexed_len (k+1) r]
end
section
open Go.RowKit
variable {E:ItEnv} {Φ0:Ent} {W:World} {M:Nat} {κ:Come} {σ:PS} {a:Act} {w:World} {P:Program} {T:Tab} {Q:Exit→PS→Come→Prop}
theorem relJ_R:∀σ a w,RelJ E Φ0 W M κ σ a w→∃Φf W',Rel Φf W' M σ a w∧∀σ' a' w',Rel Φf W' M σ' a' w'→RelJ E Φ0 W M κ σ' a' w':=by
 intro σ a w h
 obtain ⟨Φf,-,h1,h2⟩:=h.go
 exact ⟨Φf,w,h1,fun σ' a' w' h3=>h2 Φf w σ' a' w' (Later.refl _ _) h3⟩
theorem RelJ.drew (h:RelJ E Φ0 W M κ σ a w):RelJ E Φ0 W M κ σ a w.drew:=by
 obtain ⟨Φf,-,⟨Φ,μ,ω,h1⟩,h2⟩:=h.go
 exact h2 Φf w σ a w.drew (Later.refl _ _) ⟨Φ,μ,ω,h1.drew⟩
theorem PWJ.region (hT:T=tabOf P) {l d:Nat} {A:List (List PV)→Prop} (hgiv:∀b,Old Φ0 W b→¬Mix Φ0.imm b) (hy:YOK P E l A Φ0.imm W.heap.size) (hr:Φ0.round=none) {id:Nat} {ops:List Oper} (hall2:(ops.all (dstB M) && Nat.ble (1000 * id+ops.length) 1000000)=true)
  {before after:List (Nat×Oper)} {n0:Nat} {y:Oper} (hsp:indexed 0 ops=before ++ (n0,y) :: after) {pre:List (List PV)} {x:List PV} (hk:κ=some pre)
  (h:PWops P T ops.toArray (1000 * id) (fun _ _=>true) before (fun σ' => YAt l A M pre x y d σ'∧∀b:Bool,PWops P T ops.toArray (1000 * id) (fun _ _=>true) after (fun σ'' => Q .normal σ'' (if b then some (pre ++ [x]) else none)) (ybehind σ' d b)) σ) :
  PWJ E Φ0 W P M (.region id ops.toArray false) Q σ κ:=by
 intro a w hrel
 subst hk
 have hall2':=hall2
 simp only [Bool.and_eq_true] at hall2'
 obtain ⟨hall,hb0⟩:=hall2'
 have hbase:=Nat.le_of_ble_eq_true hb0
 have hall' : ∀(j:Nat) o,ops.toArray[j]? = some o→dstB M o=true:=by
  intro j o hj
  exact List.all_eq_true.1 hall o (mem_of_get (by simpa using hj))
 have hmem:∀z∈indexed 0 ops,ops.toArray[z.1]? = some z.2:=by
  intro z hz
  obtain ⟨-,h2⟩:=indexed_mem 0 ops z hz
  simpa using h2
 refine wpIn_region ?_
 have hidx:List.range ops.toArray.size=before.map (·.1) ++ (n0 :: after.map (·.1)):=by
  rw [List.range_eq_range',List.size_toArray,←indexed_fst,hsp]
  simp
 rw [hidx]
 refine opsR_sound (R:=RelJ E Φ0 W M (some pre)) relJ_R hT hall' (by simpa using hbase) (fun σ' a' w' hq hr' => ?_) before (fun z hz=>hmem z (by rw [hsp];exact List.mem_append.2 (.inl hz))) σ a w h hrel
 obtain ⟨hya,haf⟩:=hq
 have hn0:ops.toArray[n0]? = some y:=hmem (n0,y) (by rw [hsp];exact List.mem_append.2 (.inr List.mem_cons_self))
 simp only [wpOpsIn,hn0]
 have hw:Region.wanted y (yielded ops.toArray a'.tmps)=true:=by simp [Region.wanted,hya.guard]
 rw [if_pos hw]
 refine yield_sound hgiv hy hr hr' hya (fun b a2 w2 hr2=>?_)
 have:=opsR_sound (R:=RelJ E Φ0 W M (if b then some (pre ++ [x]) else none)) (r:=Φ0.round) (Q':=fun e a' w' => ∃σ' κ',Q e σ' κ'∧RelJ E Φ0 W M κ' σ' a' w') (tail := []) relJ_R hT hall' (by simpa using hbase) (fun σ'' a3 w3 hq hr3=>⟨σ'',_,hq,hr3⟩) after (fun z hz=>hmem z (by rw [hsp];exact List.mem_append.2 (.inr (List.mem_cons_of_mem _ hz)))) _ a2 w2 (haf b) hr2
 simpa using this
end
section
open Go.RowKit
def drawY (ops:List Oper) (n0:Nat):Bool:=drawB ops && (List.range n0).all (fun j=>((clos ops).getD n0 []).contains j) && (List.range' (n0+1) (ops.length - (n0+1))).all (fun j=>((clos ops).getD j []).contains n0)
end
section
open Go.RowKit
variable {E:ItEnv} {Φ0:Ent} {W:World} {M:Nat} {κ:Come} {σ:PS} {a:Act} {w:World} {P:Program} {T:Tab} {Q:Exit→PS→Come→Prop} {ops:List Oper} {base:Nat}
theorem any_soundY (hT:T=tabOf P) (hbase:base+ops.toArray.size≤1000000) (hall:∀(j:Nat) o,ops.toArray[j]? = some o→dstB M o=true) {n0:Nat} (hdraw:drawY ops n0=true)
  {l d:Nat} {A:List (List PV)→Prop} (hgiv:∀b,Old Φ0 W b→¬Mix Φ0.imm b) (hy:YOK P E l A Φ0.imm W.heap.size) (hr:Φ0.round=none) {pre:List (List PV)} {x:List PV} {before after:List (Nat×Oper)} {y:Oper} (hsp:indexed 0 ops=before ++ (n0,y) :: after) {Q' : Exit→Act→World→Prop} {Qa:Bool→PS→Prop}
  (hQ:∀b σ a w,Qa b σ→RelJ E Φ0 W M (if b then some (pre ++ [x]) else none) σ a w→Q' .normal a w) :
  ∀(fuel:Nat) (listed:Array Bool) (σ:PS) (a:Act) (w:World),unlisted listed≤fuel→listed.size=ops.length→(∀(i:Nat) o,ops[i]? = some o→listed.getD i false=true→∀j,depO o j=true→listed.getD j false=true)→listed.getD n0 false=false →
   PWops P T ops.toArray base (okR ops base) (before.filter fun x => !listed.getD x.1 false) (fun σ' => YAt l A M pre x y d σ'∧∀b,PWops P T ops.toArray base (okR ops base) after (Qa b) (ybehind σ' d b)) σ→RelJ E Φ0 W M (some pre) σ a w→wpAnyIn (FW Φ0.round) 0 P .any ops.toArray Q' fuel listed a w:=by
 simp only [drawY,Bool.and_eq_true] at hdraw
 obtain ⟨⟨hdr,hd1⟩,hd2⟩:=hdraw
 obtain ⟨hE,hI⟩:=draw_parts hdr
 have hsz:∀listed:Array Bool,listed.size=ops.length→listed.size=ops.toArray.size:=fun l h=>by simpa using h
 have hsorted:=indexed_sorted 0 ops
 rw [hsp,List.pairwise_append] at hsorted
 obtain ⟨hsb,hsa,hsx⟩:=hsorted
 rw [List.pairwise_cons] at hsa
 have hmem:∀z∈indexed 0 ops,ops[z.1]? = some z.2:=by
  intro z hz
  obtain ⟨-,h2⟩:=indexed_mem 0 ops z hz
  simpa using h2
 have hy0:ops[n0]? = some y:=hmem (n0,y) (by rw [hsp];exact List.mem_append.2 (.inr List.mem_cons_self))
 have hn0:n0 < ops.length:=(List.getElem?_eq_some_iff.1 hy0).1
 have hbm:∀z∈before,z.1 < n0∧ops[z.1]? = some z.2:=fun z hz=>⟨hsx z hz (n0,y) List.mem_cons_self,hmem z (by rw [hsp];exact List.mem_append.2 (.inl hz))⟩
 have ham:∀z∈after,n0 < z.1∧ops[z.1]? = some z.2:=fun z hz=>⟨hsa.1 z hz,hmem z (by rw [hsp];exact List.mem_append.2 (.inr (List.mem_cons_of_mem _ hz)))⟩
 have hcb:∀z∈before,z.1∈(clos ops).getD n0 []:=fun z hz=>List.contains_iff_mem.1 (List.all_eq_true.1 hd1 z.1 (List.mem_range.2 (hbm z hz).1))
 have hca:∀z∈after,n0∈(clos ops).getD z.1 []:=fun z hz=>List.contains_iff_mem.1 (List.all_eq_true.1 hd2 z.1 (by
  have:=(ham z hz).1
  have:=(List.getElem?_eq_some_iff.1 (ham z hz).2).1
  rw [List.mem_range'_1];omega))
 have hinx:∀(i:Nat) o,ops[i]? = some o→(i,o)∈indexed 0 ops:=by
  have:∀(l:List Oper) (k i:Nat) o,l[i]? = some o→(k+i,o)∈indexed k l:=by
   intro l
   induction l with
   |nil=>intro k i o h;simp at h
   |cons p l ih=>
    intro k i o h
    cases i with
    |zero=>simp at h;subst h;simp [indexed]
    |succ i=>
     simp at h
     have:=ih (k+1) i o h
     simp only [indexed,List.mem_cons]
     right
     rw [show k+(i+1)=k+1+i by omega];exact this
  intro i o h
  have:=this ops 0 i o h
  rwa [Nat.zero_add] at this
 have alls:∀listed:Array Bool,listed.size=ops.length→Region.ready .any ops.toArray listed = []→∀i,i < ops.length→listed.getD i false=true:=by
  intro listed hs hr i
  induction i using Nat.strongRecOn with
  |_ i ih=>
   intro hi
   have ho:ops.toArray[i]? = some ops[i]:=by simp [hi]
   cases hl:listed.getD i false with
   |true=>rfl
   |false=>
    have:i∈Region.ready .any ops.toArray listed:=(mem_ready (hsz listed hs)).2 ⟨ops[i],ho,hl,fun j hj=>by
     obtain ⟨e,he,hb,rfl⟩:=depO_iff.1 hj
     have:=hE i ops[i] (by simp [hi]) e he hb
     exact ih e.on this (by omega)⟩
    rw [hr] at this;cases this
 intro fuel
 induction fuel with
 |zero=>
  intro listed σ a w hu hs hcl hn h hr
  have hl:=unlisted_zero (Nat.le_zero.1 hu)
  rw [hl n0 (by rw [hs];exact hn0)] at hn
  cases hn
 |succ fuel ih=>
  intro listed σ a w hu hs hcl hn h hrel
  refine ⟨(fun hrd=>by rw [alls listed hs hrd n0 hn0] at hn;cases hn),fun i hi=>?_⟩
  obtain ⟨o,ho,h1,h2⟩:=(mem_ready (hsz listed hs)).1 hi
  have ho' : ops[i]? = some o:=by simpa using ho
  have hil:i < ops.length:=(List.getElem?_eq_some_iff.1 ho').1
  have hset:listed.getD i false=false:=h1
  have hlt:i < listed.size:=by rw [hs];exact hil
  have hcl' : ∀(k:Nat) p,ops[k]? = some p→(listed.setIfInBounds i true).getD k false=true→∀j,depO p j=true→(listed.setIfInBounds i true).getD j false=true:=by
   intro k p hp hk j hj
   rw [getD_set _ _ _ hlt] at hk ⊢
   simp only [Bool.or_eq_true,decide_eq_true_eq] at hk ⊢
   rcases hk with rfl|hk
   ·rw [ho'] at hp;cases hp;exact .inr (h2 j hj)
   ·exact .inr (hcl k p hp hk j hj)
  have hin:=hinx i o ho'
  rw [hsp] at hin
  rcases List.mem_append.1 hin with hin|hin
  ·-- ahead of the call
   have hmem:(i,o)∈before.filter fun x => !listed.getD x.1 false:=by
    rw [List.mem_filter]
    exact ⟨hin,by simp [h1]⟩
   obtain ⟨pre',post',hL⟩:=List.append_of_mem hmem
   have hsort:(before.filter fun x => !listed.getD x.1 false).Pairwise (fun a b=>a.1 < b.1):=hsb.filter _
   rw [hL] at h hsort
   rw [List.pairwise_append] at hsort
   obtain ⟨-,hs2,hs3⟩:=hsort
   rw [List.pairwise_cons] at hs2
   have hpre:∀y∈pre',y.1 < i:=fun y hy=>hs3 y hy (i,o) (by simp)
   have hpost:∀y∈post',i < y.1:=fun y hy=>hs2.1 y hy
   have hprem:∀y∈pre',ops[y.1]? = some y.2∧listed.getD y.1 false=false:=by
    intro y hy
    have:y∈before.filter fun x => !listed.getD x.1 false:=by rw [hL];simp [hy]
    rw [List.mem_filter] at this
    exact ⟨(hbm y this.1).2,by simpa using this.2⟩
   have hb:=PWops.bubble (P:=P) (T:=T) (base:=base) (ok:=okR ops base) (cl:=clos ops) (ix:=i) (x:=o) (post:=post') (Q:=fun σ' => YAt l A M pre x y d σ'∧∀b,PWops P T ops.toArray base (okR ops base) after (Qa b) (ybehind σ' d b)) pre' σ (by
    intro y hy
    obtain ⟨q1,q2⟩:=hprem y hy
    have hlt:=hpre y hy
    have hnc:y.1∉(clos ops).getD i []:=fun hc=>by
     rw [clos_listed hE hcl i o ho' h2 y.1 hc] at q2;cases q2
    have hyl:y.1 < ops.length:=(List.getElem?_eq_some_iff.1 q1).1
    refine ⟨⟨by simpa using (hI i y.1 o y.2 ho' q1 hlt).resolve_left hnc,fun hs j hj1 hj2=>sep_ok (ops:=ops) q1 ho' (by simpa using hs) j hj1 hj2⟩,by omega,?_,?_⟩
    ·rw [okR,Bool.and_eq_false_iff];left
     simp only [okD,Bool.or_eq_false_iff,decide_eq_false_iff_not]
     refine ⟨⟨by omega,by omega⟩,?_⟩
     rw [Nat.add_sub_cancel_left]
     simpa using hnc
    ·rw [okR,Bool.and_eq_false_iff];left
     simp only [okD,Bool.or_eq_false_iff,decide_eq_false_iff_not]
     refine ⟨⟨by omega,by omega⟩,?_⟩
     rw [Nat.add_sub_cancel_left]
     have:i∉(clos ops).getD y.1 []:=fun hc=>by have:=clos_lt hE y.1 y.2 q1 i hc;omega
     simpa using this) h
   have hrem:pre' ++ post' = before.filter fun x => !(listed.setIfInBounds i true).getD x.1 false:=by
    have e1:(before.filter fun x => !(listed.setIfInBounds i true).getD x.1 false)=(before.filter fun x => !listed.getD x.1 false).filter (fun x => !decide (x.1=i)):=by
     rw [List.filter_filter]
     congr 1
     funext x
     rw [getD_set _ _ _ hlt]
     cases listed.getD x.1 false<;>simp
    rw [e1,hL,List.filter_append,List.filter_cons]
    have e2:pre'.filter (fun x => !decide (x.1=i))=pre':=List.filter_eq_self.2 (fun y hy=>by have:=hpre y hy;simp;omega)
    have e3:post'.filter (fun x => !decide (x.1=i))=post':=List.filter_eq_self.2 (fun y hy=>by have:=hpost y hy;simp;omega)
    rw [e2,e3]
    simp
   have hn' : (listed.setIfInBounds i true).getD n0 false=false:=by
    rw [getD_set _ _ _ hlt]
    have:=(hbm (i,o) hin).1
    simp only at this
    rw [hn]
    simp;omega
   obtain ⟨Φf,W',hrel',hbk⟩:=relJ_R σ a w hrel
   have hstep:=op_sound (Φ0:=Φf) (W:=W') (M:=M) hT hall (base:=base) hbase ho (K':=wpAnyIn (FW Φ0.round) 0 P .any ops.toArray Q' fuel (listed.setIfInBounds i true)) (Q':=Q') (fun σ' a' w' hk hr' => ih (listed.setIfInBounds i true) σ' a' w' (by have:=unlisted_set listed i hlt hset;omega) (by simpa using hs) hcl' hn' (by rw [←hrem];exact hk) (hbk _ _ _ hr')) hb hrel'
   unfold wpOpIn
   rw [ho]
   simp only
   split
   ·rename_i hw;rw [if_pos hw] at hstep;exact wpIn_of_wp (dstB_defer (hall i o ho)) hstep
   ·rename_i hw;rw [if_neg hw] at hstep;exact ⟨fun _ _=>trivial,hstep⟩
  ·rcases List.mem_cons.1 hin with hin|hin
   ·-- the call
    cases hin
    have hall' : ∀z∈before,listed.getD z.1 false=true:=fun z hz=>clos_listed hE hcl n0 y hy0 h2 z.1 (hcb z hz)
    have hnil:(before.filter fun x => !listed.getD x.1 false) = []:=by
     rw [List.filter_eq_nil_iff]
     intro z hz
     simp [hall' z hz]
    rw [hnil] at h
    obtain ⟨hya,haf⟩:=h
    unfold wpOpIn
    rw [ho]
    simp only
    have hw:Region.wanted y (yielded ops.toArray a.tmps)=true:=by simp [Region.wanted,hya.guard]
    rw [if_pos hw]
    refine yield_sound hgiv hy hr hrel hya (fun b a2 w2 hr2=>?_)
    refine any_soundR (R:=RelJ E Φ0 W M (if b then some (pre ++ [x]) else none)) (r:=Φ0.round) relJ_R hT hbase hall hdr (Q:=Qa b) (fun σ' a' w' hq hr' => hQ b σ' a' w' hq hr') fuel (listed.setIfInBounds n0 true) _ a2 w2 (by have:=unlisted_set listed n0 hlt hset;omega) (by simpa using hs) hcl' ?_ hr2
    have:((indexed 0 ops).filter fun x => !(listed.setIfInBounds n0 true).getD x.1 false)=after:=by
     rw [hsp,List.filter_append,List.filter_cons]
     have e1:(before.filter fun x => !(listed.setIfInBounds n0 true).getD x.1 false) = []:=by
      rw [List.filter_eq_nil_iff]
      intro z hz
      rw [getD_set _ _ _ hlt]
      simp [hall' z hz]
     have e2:(after.filter fun x => !(listed.setIfInBounds n0 true).getD x.1 false)=after:=by
      rw [List.filter_eq_self]
      intro z hz
      rw [getD_set _ _ _ hlt]
      have hz1:=(ham z hz).1
      have hz2:listed.getD z.1 false=false:=by
       cases hzz:listed.getD z.1 false with
       |false=>rfl
       |true=>
        have:=clos_listed hE hcl z.1 z.2 (ham z hz).2 (hcl z.1 z.2 (ham z hz).2 hzz) n0 (hca z hz)
        rw [hn] at this;cases this
      rw [hz2]
      simp;omega
     rw [e1,e2,getD_set _ _ _ hlt]
     simp
    rw [this]
    exact haf b
   ·-- behind the call: it has not come yet
    have:=clos_listed hE hcl i o ho' h2 n0 (hca (i,o) hin)
    rw [hn] at this;cases this
theorem PWJ.draw (hT:T=tabOf P) (hm:P.follows .mixedOrders=true) {l d:Nat} {A:List (List PV)→Prop} (hgiv:∀b,Old Φ0 W b→¬Mix Φ0.imm b) (hy:YOK P E l A Φ0.imm W.heap.size) (hr:Φ0.round=none) {id:Nat} (hall2:(ops.all (dstB M) && Nat.ble (1000 * id+ops.length) 1000000)=true) {n0:Nat} (hd:drawY ops n0=true)
  {before after:List (Nat×Oper)} {y:Oper} (hsp:indexed 0 ops=before ++ (n0,y) :: after) {pre:List (List PV)} {x:List PV} (hk:κ=some pre)
  (h:PWops P T ops.toArray (1000 * id) (okR ops (1000 * id)) before (fun σ' => YAt l A M pre x y d σ'∧∀b:Bool,PWops P T ops.toArray (1000 * id) (okR ops (1000 * id)) after (fun σ'' => Q .normal σ'' (if b then some (pre ++ [x]) else none)) (ybehind σ' d b)) σ) :
  PWJ E Φ0 W P M (.region id ops.toArray true) Q σ κ:=by
 intro a w hrel
 subst hk
 have hall2':=hall2
 simp only [Bool.and_eq_true] at hall2'
 obtain ⟨hall,hb0⟩:=hall2'
 have hbase:=Nat.le_of_ble_eq_true hb0
 refine wpIn_region_any hm ?_
 have hn0:n0 < ops.length:=by
  have:(n0,y)∈indexed 0 ops:=by rw [hsp];exact List.mem_append.2 (.inr List.mem_cons_self)
  obtain ⟨-,h2⟩:=indexed_mem 0 ops _ this
  exact (List.getElem?_eq_some_iff.1 (by simpa using h2)).1
 refine any_soundY (base:=1000 * id) (d:=d) (Qa:=fun b σ'' => Q .normal σ'' (if b then some (pre ++ [x]) else none)) hT (by simpa using hbase) (by
  intro j o hj
  exact List.all_eq_true.1 hall o (mem_of_get (by simpa using hj))) hd hgiv hy hr hsp (fun b σ' a' w' hq hr' => ⟨σ',_,hq,hr'⟩) _ _ σ a _ ?_ (by simp) ?_ ?_ ?_ hrel.drew
 ·unfold unlisted
  exact Nat.le_trans List.countP_le_length (by simp)
 ·intro i o ho hl
  simp [Array.getD_eq_getD_getElem?,Array.getElem?_replicate] at hl
  split at hl<;>simp_all
 ·simp [Array.getD_eq_getD_getElem?,Array.getElem?_replicate]
  split<;>rfl
 ·have:(before.filter fun x => !(Array.replicate ops.toArray.size false).getD x.1 false)=before:=by
   rw [List.filter_eq_self]
   intro x _
   simp [Array.getD_eq_getD_getElem?,Array.getElem?_replicate]
   split<;>rfl
  rw [this]
  exact h
theorem PWJ.drawN (n0:Nat) (hT:T=tabOf P) (hm:P.follows .mixedOrders=true) {l d:Nat} {A:List (List PV)→Prop} (hgiv:∀b,Old Φ0 W b→¬Mix Φ0.imm b) (hy:YOK P E l A Φ0.imm W.heap.size) (hr:Φ0.round=none) {id:Nat} (hall2:(ops.all (dstB M) && Nat.ble (1000 * id+ops.length) 1000000)=true) (hd:drawY ops n0=true)
  {y:Oper} (hsp:ops[n0]? = some y) {pre:List (List PV)} {x:List PV} (hk:κ=some pre)
  (h:PWops P T ops.toArray (1000 * id) (okR ops (1000 * id)) ((indexed 0 ops).take n0) (fun σ' => YAt l A M pre x y d σ'∧∀b:Bool,PWops P T ops.toArray (1000 * id) (okR ops (1000 * id)) ((indexed 0 ops).drop (n0+1)) (fun σ'' => Q .normal σ'' (if b then some (pre ++ [x]) else none)) (ybehind σ' d b)) σ) :
  PWJ E Φ0 W P M (.region id ops.toArray true) Q σ κ:=by
 refine PWJ.draw hT hm hgiv hy hr hall2 hd ?_ hk h
 have hlen:n0 < (indexed 0 ops).length:=by rw [indexed_len];exact (List.getElem?_eq_some_iff.1 hsp).1
 have e1:(indexed 0 ops)[n0]=(n0,y):=by
  have hf:((indexed 0 ops).map (·.1))[n0]? = some n0:=by
   rw [indexed_fst,List.getElem?_range' (by rw [indexed_len] at hlen;exact hlen)];simp
  rw [List.getElem?_map,List.getElem?_eq_getElem hlen] at hf
  have h1:((indexed 0 ops)[n0]).1=n0:=by simpa using hf
  obtain ⟨-,h2⟩:=indexed_mem 0 ops _ (List.getElem_mem hlen)
  rw [h1,Nat.sub_zero,hsp] at h2
  exact Prod.ext h1 (Option.some.inj h2).symm
 rw [←e1]
 exact (List.take_append_drop n0 _).symm.trans (by rw [List.drop_eq_getElem_cons hlen])
theorem PWJ.condT {c:Operand} {x y:Code} (hc:pev σ c = .val (.bool true)) (h:PWJ E Φ0 W P M x Q σ κ):PWJ E Φ0 W P M (.cond c x y) Q σ κ:=PWJ.cond hc h
theorem PWJ.condF {c:Operand} {x y:Code} (hc:pev σ c = .val (.bool false)) (h:PWJ E Φ0 W P M y Q σ κ):PWJ E Φ0 W P M (.cond c x y) Q σ κ:=PWJ.cond hc h
theorem thenJ {y:Code} (h:PWJ E Φ0 W P M y Q σ κ):ThenJ E Φ0 W P M y Q .normal σ κ:=h
theorem thenJ_ret {y:Code} (h:Q .ret σ κ):ThenJ E Φ0 W P M y Q .ret σ κ:=h
theorem thenJ_exit {y:Code} {i:Nat} (h:Q (.exit i) σ κ):ThenJ E Φ0 W P M y Q (.exit i) σ κ:=h
theorem blockJ {id:Nat} (h:Q .normal σ κ):BlockJ id Q .normal σ κ:=h
theorem blockJ_exit {id:Nat} (h:Q .normal σ κ):BlockJ id Q (.exit id) σ κ:=by simpa [BlockJ] using h
theorem blockJ_ret {id:Nat} (h:Q .ret σ κ):BlockJ id Q .ret σ κ:=h
theorem blockJ_other {id j:Nat} (hj:j≠id) (h:Q (.exit j) σ κ):BlockJ id Q (.exit j) σ κ:=by simpa [BlockJ,hj] using h
theorem loopJ {α:Type} {st:α→PS} {kf:α→Come} {I:α→Prop} {m:α→Nat} {x:α} (y:α) (hi:I y) (hm:m y < m x) (hs:Sub M σ (st y)) (hk:κ=kf y):LoopJ M st kf I m x Q .normal σ κ:=⟨y,hi,hm,hs,hk⟩
theorem loopJ_exit {α:Type} {st:α→PS} {kf:α→Come} {I:α→Prop} {m:α→Nat} {x:α} {j:Nat} (h:Q (.exit j) σ κ):LoopJ M st kf I m x Q (.exit j) σ κ:=h
theorem loopJ_ret {α:Type} {st:α→PS} {kf:α→Come} {I:α→Prop} {m:α→Nat} {x:α} (h:Q .ret σ κ):LoopJ M st kf I m x Q .ret σ κ:=h
def RetJ (T:Tab) (rs:List ResultVar) (S:List (List PV)→Prop):Exit→PS→Come→Prop
 | .ret,σ,κ=>(∃r,presult T σ rs=some r)∧∀xs,κ=some xs→S xs
 | .normal,σ,κ=>(∃r,presult T σ rs=some r)∧∀xs,κ=some xs→S xs
 |_,_,_=>False
theorem itspec_of_pwj (hT:T=tabOf P) {f:FuncId} {fn:Func} {c:Code} {caps:List PV} {A S:List (List PV)→Prop} (hf:P.funcs[f]? = some fn) (hb:fn.body=some c) (hcb:callB P f=true) (hlow:∀p∈caps,Low p) (hno:∀p∈caps,p.ownB=false) (hn:caps.length+1≤fn.ntmps)
  (h:∀(E:ItEnv) (Φ0:Ent) (W:World) (l:Nat),(∀b,Old Φ0 W b→¬Mix Φ0.imm b)→YOK P E l A Φ0.imm W.heap.size→Φ0.round=none→PWJ E Φ0 W P fn.ntmps c (RetJ T fn.results.toList S) (initS (.val (.func (.yield l) #[] #[]) :: caps)) (some [])):ItSpec P f caps A S:=by
 refine ⟨hcb,fun E l Φe w vs himm hgl hrep hy hJ=>(callsIn_wide (n:=0)).1 (callsIn_of_wp_marks hf hb trivial ?_)⟩
 have hext:∀b o u,Φe b o=some u→b < w.heap.size:=fun b o u e=>World.block_lt_of_cell? _ _ (himm b o u e)
 let Φ0:Ent:=⟨Φe,fun b=>b < w.heap.size∧Mix Φe b,fun _=>none,hgl,fun g hg=>hg.2,[],none⟩
 have hgiv:∀b,Old Φ0 w b→¬Mix Φ0.imm b:=fun b hb hm=>hb.2 ⟨hb.1,hm⟩
 have hrep' : RepL Φe mu0 (.val (.func (.yield l) #[] #[]) :: caps) (.func (.yield l) #[] #[] :: vs):=RepL.cons (.val _ rfl) hrep
 have hargs:(#[.func (.yield l) #[] #[]] ++ vs.toArray:Array Value)=(.func (.yield l) #[] #[] :: vs:List Value).toArray:=by
  apply Array.ext'; simp
 rw [hargs]
 have hlow' : ∀p∈(PV.val (.func (.yield l) #[] #[]) :: caps),Low p:=by
  intro p hp
  rcases List.mem_cons.1 hp with rfl|hp
  ·exact .val _
  ·exact hlow p hp
 have hno' : ∀p∈(PV.val (.func (.yield l) #[] #[]) :: caps),p.ownB=false:=by
  intro p hp
  rcases List.mem_cons.1 hp with rfl|hp
  ·rfl
  ·exact hno p hp
 have hg:RelG Φ0 w fn.ntmps Φe mu0 (fun _=>none) (initS (.val (.func (.yield l) #[] #[]) :: caps)) { tmps:=(.func (.yield l) #[] #[] :: vs:List Value).toArray ++ Array.replicate (fn.ntmps - (.func (.yield l) #[] #[] :: vs:List Value).toArray.size) undef,defers := [] } w:=by
  refine ⟨Kept.refl _ _,⟨rfl,fun _ e=>by cases e⟩,by simp [hrep.1];omega,himm,fun _ _ _=>rfl,fun t=>?_,fun t n k cs E e=>?_,fun id bs e=>(by cases e),fun _ _ _=>rfl,fun g p e=>(by cases e),fun id g e=>(by cases e),fun id g e=>(by cases e),fun b o u e=>⟨e,hext b o u e⟩,fun id X e=>(by cases e),fun g p e=>(by cases e)⟩
  ·simp only [initS]
   cases ht:(PV.val (.func (.yield l) #[] #[]) :: caps)[t]? with
   |none=>exact .undef _
   |some p=>
    obtain ⟨u,hu,hru⟩:=hrep'.get ht
    have hlt:t < (.func (.yield l) #[] #[] :: vs:List Value).length:=(List.getElem?_eq_some_iff.1 hu).1
    have:((.func (.yield l) #[] #[] :: vs:List Value).toArray ++ Array.replicate (fn.ntmps - (.func (.yield l) #[] #[] :: vs:List Value).toArray.size) undef).getD t undef=u:=by
     rw [Array.getD_eq_getD_getElem?,Array.getElem?_append_left (by simpa using hlt)]
     rw [List.getElem?_toArray,hu];rfl
    rw [this]
    exact hru
  ·simp only [initS] at e
   cases ht:(PV.val (.func (.yield l) #[] #[]) :: caps)[t]? with
   |none=>rw [ht] at e;simp at e
   |some p=>
    rw [ht] at e
    simp at e
    have:=hno' p (mem_of_get ht)
    rw [e] at this;simp [PV.ownB] at this
 have hoff:offI Φe (fun _=>none)=Φe:=by funext b o;exact freshI_eq (fun p e=>by cases e)
 have hrel:RelJ E Φ0 w fn.ntmps (some []) (initS (.val (.func (.yield l) #[] #[]) :: caps)) { tmps:=(.func (.yield l) #[] #[] :: vs:List Value).toArray ++ Array.replicate (fn.ntmps - (.func (.yield l) #[] #[] :: vs:List Value).toArray.size) undef,defers := [] } w:=
  ⟨Φ0,w,Φe,mu0,fun _=>none,fun _=>False,Later.refl _ _,hg,by rw [hoff];exact hJ,fun g h=>h.elim,fun g p e=>(by cases e),fun b o u hb e=>(by have:=hext b o u e;omega),fun b o hb=>rfl,fun m hm=>(by cases hm)⟩
 refine wpIn_mono (h E Φ0 w l hgiv hy rfl _ w hrel) ?_
 rintro e a' w0 ⟨σ',κ,hq,hr⟩
 have fin:((∃r,presult T σ' fn.results.toList=some r)∧∀xs,κ=some xs→S xs)→LeavesInM (FW none) 0 P fn a'.tmps (fun e w' => ∃v κ K,e = .returned v∧(∀xs,κ=some xs→S xs)∧E.J κ (fun _=>False) K w') a'.defers .returning w0:=by
  rintro ⟨⟨r,hpr⟩,hS⟩
  obtain ⟨Φ1,W1,Φ,μ,ω,I,hl,hg,hJ,h1,h2,h3,h4,h5⟩:=hr
  obtain ⟨ms,hd1,hd2,hd3,hg'⟩:=RelG.shut (Φ0:=Φ0) rfl rfl hl hg
  rw [hd1]
  refine leaves_shut ms w0 hd2 hd3 ?_
  obtain ⟨v,r1,r2,r3⟩:=results_run hT hg' hpr
  refine ⟨v,r1,v,κ,offI Φ ω,rfl,hS,E.step hJ ?_ (fun g hh=>hh.elim) (fun b o u e _=>e) (fun b o u e=>?_)⟩
  ·obtain ⟨k1,k2,k3⟩:=shut_os ms w0
   refine ⟨k1,k2,k3,Nat.le_of_eq (shut_size ms w0).symm,fun k hk=>shut_other ms w0 k fun hm=>hk.2 (h5 k ?_)⟩
   obtain ⟨ms',e1,-,-⟩:=hl.marks
   have e2:Φ1.marks=ms':=by rw [e1];exact List.append_nil _
   have e3:=hg.defers.1
   rw [hd1,e2] at e3
   have:ms=ms':=by
    have hinj:∀(l l' : List Nat),l.map collD=l'.map collD→l=l':=by
     intro l
     induction l with
     |nil=>intro l' e;cases l' with
      |nil=>rfl
      |cons=>cases e
     |cons x l ih=>intro l' e;cases l' with
      |nil=>cases e
      |cons y l' =>
       simp only [List.map_cons,List.cons.injEq] at e
       have hxy:x=y:=by
        have:=e.1
        simp only [collD,Deferred.mk.injEq,Target.collected.injEq] at this
        exact this.1
       rw [hxy,ih l' e.2]
    exact hinj _ _ e3
   rw [e2,←this];exact hm
  ·exact hg'.imm b o u (offI_some.1 e).2
 cases e with
 |ret=>exact fin hq
 |normal=>exact fin hq
 |_=>exact hq.elim
end
section
open Go.RowKit
variable {Φ0:Ent} {W:World} {M:Nat} {Φ:Imm} {μ:Nat→Option Nat} {ω:Nat→Option Who} {σ:PS} {a:Act} {w:World} {P:Program} {T:Tab}
theorem RelG.boxTake (h:RelG Φ0 W M Φ μ ω σ a w) {id:Nat} {bs cs r:List PV} (hb:σ.b id=some bs) (hc:bs=cs ++ r):RelG Φ0 W M Φ μ ω { σ with b:=upd σ.b id (some cs) } a w:=by
 subst hc
 refine { h with box:=fun i bs' e=>?_,gone:=fun i e em=>?_,kmu:=fun i g e hi=>?_ }
 ·by_cases hi:i=id
  ·subst hi
   simp only [upd_if,if_true] at e
   cases e
   obtain ⟨g,cur,T,h1,h2,h3,h4,h5,h6,h7⟩:=h.box i _ hb
   refine ⟨g,cur,T,h1,h2,h3,h4,h5,by simp at h6;omega,fun j c hc=>h7 j c ?_⟩
   rw [List.getElem?_append_left (List.getElem?_eq_some_iff.1 hc).1];exact hc
  ·simp only [upd_if,if_neg hi] at e;exact h.box i bs' e
 ·by_cases hi:i=id
  ·subst hi;simp only [upd_if,if_true] at e;cases e
  ·simp only [upd_if,if_neg hi] at e;exact h.gone i e em
 ·by_cases hi' : i=id
  ·subst hi'; exact h.kmu i g e (.inl (by rw [hb];simp))
  ·simp only [upd_if,if_neg hi'] at hi;exact h.kmu i g e hi
theorem RelG.appendBox (h:RelG Φ0 W M Φ μ ω σ a w) {s d id:Nat} (hlow:id < 1000000) (hid:σ.b id=none) (hmid:σ.m id=none) (hd:d < M) {m k cap g:Nat} {ds:List PV} {e:TypeId} {cur:Array Value} {news:List Value}
  (hg:w.heap[g]? = some (.cells cur e (0,0))) (hroom:m≤cap) (hcur:cur.size=cap * k) (hω:ω g=some (.tmp s)) (hfree:∀j,Φ g j=none) (hB:Mine Φ0 W g) (hcap:cap≤maxLen)
  (hds:ds.length=m * k) (hn:RepL Φ μ ds news) (hone:∀u∈news,u.oneCell' = true) (hno:∀c∈ds,c.ownB=false) :
  Rel Φ0 W M { t:=upd (upd σ.t s (σ.t s).bare) d (.msl id 0 m k),b:=upd σ.b id (some ds),m:=σ.m } (a.put (some d) (.slice (some ⟨g,0,none⟩) m cap)) (w.setRow g (news ++ cur.toList.drop news.length).toArray):=by
 have hd' : d < a.tmps.size:=by rw [h.size];exact hd
 have hlt:g < w.heap.size:=(Array.getElem?_eq_some_iff.1 hg).1
 have hmk:m * k≤cap * k:=Nat.mul_le_mul_right _ hroom
 have hnl:=hn.1
 have hμ:∀i g',μ i=some g'→upd μ id (some g) i=some g':=by
  intro i g' e'
  simp only [upd_if]
  rw [if_neg (by rintro rfl;rw [h.gone _ hid hmid] at e'; cases e')];exact e'
 have hω' : ∀g' p,ω g' = some p→p≠.tmp s→upd ω g (some (.box id)) g' = some p:=by
  intro g' p eg hp
  simp only [upd_if]
  rw [if_neg (by rintro rfl;rw [hω] at eg;cases eg;exact hp rfl)]
  exact eg
 have hstep:∀q n' k' E v,q≠.tmp s→OwnAt (Mine Φ0 W) Φ ω w q n' k' E v→OwnAt (Mine Φ0 W) Φ (upd ω g (some (.box id))) (w.setRow g (news ++ cur.toList.drop news.length).toArray) q n' k' E v:=by
  intro q n' k' E v hq hh
  refine hh.step (fun g' eg=>?_)
  have hne:g'≠g:=by rintro rfl;rw [hω] at eg;cases eg;exact hq rfl
  exact ⟨setRow_other w g g' _ hne,fun j=>rfl,hω' g' q eg hq⟩
 refine ⟨Φ,upd μ id (some g),upd ω g (some (.box id)),?_,h.defers,by simp [Act.put,h.size],?_,h.old,fun t=>?_,fun t n' k' cs' E' et=>?_,fun i bs eb=>?_,?_,?_,h.gmu,?_,h.ext,fun i X e' => (h.map i X e').step (fun _ _ _ e=>e) hμ (fun q hq g' eg=>?_),fun g' p e' => ?_⟩
 ·exact h.below.trans ⟨rfl,rfl,rfl,by simp,fun j hj=>setRow_other w g j _ (hB.ne hj)⟩
 ·intro b o u eu
  have hb:b≠g:=by rintro rfl;rw [hfree] at eu;cases eu
  have:=h.imm b o u eu
  simp only [World.cell?] at this ⊢
  rw [setRow_other w g b _ hb];exact this
 ·rw [getD_put _ _ _ _ hd']
  simp only [upd_if]
  by_cases ht:t=d
  ·simp only [if_pos ht]
   exact .msl id 0 m k _ cap (fun _=>⟨g,by simp [upd_if],rfl⟩) hroom hcap
  ·simp only [if_neg ht]
   by_cases hts:t=s
   ·subst hts;simp only [if_true];exact ((h.tmps t).mono (fun _ _ _ e=>e) hμ).bare
   ·simp only [if_neg hts];exact (h.tmps t).mono (fun _ _ _ e=>e) hμ
 ·rw [getD_put _ _ _ _ hd']
  simp only [upd_if] at et
  by_cases ht:t=d
  ·simp only [if_pos ht] at et;cases et
  ·simp only [if_neg ht] at et ⊢
   by_cases hts:t=s
   ·simp only [if_pos hts] at et
    have:=PV.bare_own (σ.t s);rw [et] at this;simp [PV.ownB] at this
   ·simp only [if_neg hts] at et
    exact hstep _ _ _ _ _ (by simp [hts]) (h.own t n' k' cs' E' et)
 ·by_cases hi:i=id
  ·subst hi
   simp only [upd_if,if_true] at eb
   cases eb
   refine ⟨g,_,e,by simp [upd_if],setRow_heap w g cur _ e _ hg,hB,by simp [upd_if],hfree,by simp;omega,fun j c hc=>?_⟩
   obtain ⟨u,hu,hru⟩:=hn.get hc
   refine ⟨u,?_,hone u (mem_of_get hu),hru.mono (fun _ _ _ e=>e) hμ,fun n k cs E e' => ?_⟩
   ·rw [List.getElem?_toArray,List.getElem?_append_left (List.getElem?_eq_some_iff.1 hu).1];exact hu
   ·have:=hno c (mem_of_get hc)
    rw [e'] at this;simp [PV.ownB] at this
  ·simp only [upd_if,if_neg hi] at eb
   obtain ⟨g2,cur',Ty,h1,h2',h3,h4,h5,h6,h7⟩:=h.box i bs eb
   have hne:g2≠g:=by rintro rfl;rw [hω] at h4;cases h4
   refine ⟨g2,cur',Ty,hμ _ _ h1,by rw [setRow_other w g g2 _ hne];exact h2',h3,hω' g2 _ h4 (by simp),h5,h6,fun j c hc=>?_⟩
   obtain ⟨u,r1,r2,r3,r4⟩:=h7 j c hc
   exact ⟨u,r1,r2,r3.mono (fun _ _ _ e=>e) hμ,fun n k cs E e=>hstep _ _ _ _ _ (by simp) (r4 n k cs E e)⟩
 ·intro i e' em
  by_cases hi:i=id
  ·subst hi;simp [upd_if] at e'
  ·simp only [upd_if,if_neg hi] at e' ⊢; exact h.gone i e' em
 ·intro g' p eg
  simp only [upd_if] at eg
  split at eg
  ·subst g'; simpa using hlt
  ·simpa using h.lt g' p eg
 ·intro i g' e' hi
  have hne:i≠id:=by have:=h.gmu i g' e'; omega
  simp only [upd_if,if_neg hne] at hi ⊢
  exact h.kmu i g' e' hi
 ·have hne:g'≠g:=by rintro rfl;rw [hω] at eg;cases eg;rcases hq with hq|⟨j,hq⟩<;>cases hq
  exact ⟨setRow_other w g g' _ hne,fun j=>rfl,hω' g' q eg (by rintro rfl;rcases hq with hq|⟨j,hq⟩<;>cases hq)⟩
 ·simp only [upd_if] at e'
  split at e'
  ·subst g'; exact hB
  ·exact h.mine g' p e'
theorem Rel.freshBox (h:RelG Φ0 W M Φ μ ω σ a w) {s d id:Nat} (hlow:id < 1000000) (hid:σ.b id=none) (hmid:σ.m id=none) (hd:d < M) {m k cap:Nat} {ds:List PV} {news:List Value} {rest:Array Value} (T:TypeId) (hroom:m≤cap) (hcap:cap≤maxLen) (hn:RepL Φ μ ds news) (hone:∀u∈news,u.oneCell' = true) (hone2:∀u∈rest.toList,u.oneCell' = true) (hno:∀c∈ds,c.ownB=false) :
  Rel Φ0 W M { t:=upd (upd σ.t s (σ.t s).bare) d (.msl id 0 m k),b:=upd σ.b id (some ds),m:=σ.m } (a.put (some d) (.slice (some ⟨w.heap.size,0,none⟩) m cap)) (w.drew.alloc (.cells (news.toArray ++ rest) T)):=by
 have h1:=h.drew.newBox hlow hid hmid (bs:=ds ++ List.replicate rest.size .undef) (us:=news ++ rest.toList) ⟨by simp [hn.1],fun j c u hc hu=>by
  by_cases hj:j < ds.length
  ·rw [List.getElem?_append_left hj] at hc
   rw [List.getElem?_append_left (by rw [hn.1];exact hj)] at hu
   exact hn.2 j c u hc hu
  ·rw [List.getElem?_append_right (by omega)] at hc
   rw [(List.mem_replicate.1 (List.mem_of_getElem? hc)).2]
   exact .undef _⟩ (fun u hu=>by
    rcases List.mem_append.1 hu with hu|hu
    ·exact hone u hu
    ·exact hone2 u hu) (fun c hc=>by
    rcases List.mem_append.1 hc with hc|hc
    ·exact hno c hc
    ·rw [(List.mem_replicate.1 hc).2];rfl) T
 have h2:=h1.boxTake (id:=id) (cs:=ds) (bs:=ds ++ List.replicate rest.size .undef) (r:=List.replicate rest.size .undef) (by simp [upd_if]) rfl
 have h3:=h2.strip s
 have h4:=h3.put hd (p:=.msl id 0 m k) (v:=.slice (some ⟨w.heap.size,0,none⟩) m cap) (.msl id 0 m k _ cap (fun _=>⟨w.heap.size,by simp [upd_if],rfl⟩) hroom hcap) rfl
 have e:(news ++ rest.toList).toArray=news.toArray ++ rest:=by simp
 have e2:upd (upd σ.b id (some (ds ++ List.replicate rest.size .undef))) id (some ds)=upd σ.b id (some ds):=by
  funext j;simp only [upd_if];by_cases hj:j=id<;>simp [hj]
 rw [e] at h4
 have:({ t:=upd (upd σ.t s (σ.t s).bare) d (.msl id 0 m k),b:=upd σ.b id (some ds),m:=σ.m } : PS)=PS.put { σ with t:=upd σ.t s (σ.t s).bare,b:=upd (upd σ.b id (some (ds ++ List.replicate rest.size .undef))) id (some ds) } d (.msl id 0 m k):=by
  rw [e2];rfl
 rw [this]
 exact ⟨_,_,_,h4⟩
theorem appN_does (hT:T=tabOf P) (h:RelG Φ0 W M Φ μ ω σ a w) (o:Oper) {d s id:Nat} (hlow:id < 1000000) (hid:σ.b id=none) (hmid:σ.m id=none) (hd:o.dst=some d) (hM:d < M) {x:Operand} {t:TypeId} (hop:o.op = .call { callee:=.builtin .append,args := #[.tmp s,x],argTypes := #[t,t] })
  {ti:TyI} (ht:T.at t=some ti) {m e k by_:Nat} {ds zr:List PV} {own:Option TypeId} (hk:ti.kind = .slice e k by_ zr) (hs:σ.t s = .nilsl∨σ.t s = .sl 0 k [] (some e)) (he:e < 1000000) (hx:pev σ x = .sl m k ds own) (c1:m * by_≤140737488355328) (c2:m≤140737488355328) (h0:0 < m) (c3:ds.all PV.one=true) (hno:∀c∈ds,c.ownB=false) :
  Does P Φ0 W M a w o { t:=upd (upd σ.t s (σ.t s).bare) d (.msl id 0 m k),b:=upd σ.b id (some ds),m:=σ.m }:=by
 have ht' : tyI P t=some ti:=by rw [hT] at ht;exact tab_at rfl ht
 obtain ⟨hu,i,z,e1,e2,e3,e4,e5,e6,e7,-⟩:=slice_get ht' hk
 have hrun:∀v' w',(Builtin.append_ #[t,t] o.type #[a.eval (.tmp s),a.eval x]).run P w = .ok v' w'→(execOp a.eval o).run P w = .ok (.value v') w':=by
  intro v' w' hr
  simp only [execOp,hop,resolve,invoke,builtin,Sem.run_bind,Sem.run_pure,Result.andThen_ok,List.map_toArray,List.map_cons,List.map_nil,hr]
 have hml:m≤maxLen:=by unfold maxLen;omega
 have hxx:∃ad cx news,a.eval x = .slice ad m cx∧(0 < m→∃adr,ad=some adr∧∀j u,news[j]? = some u→w.cell? (adr.add j)=some u)∧RepL Φ μ ds news∧(∀u∈news,u.oneCell' = true)∧ds.length=m * k:=by
  have hxr:=h.ev x
  rw [hx] at hxr
  obtain ⟨ad,b,off,cap,us,hv,q1,q2,q3,q4,q5,q6⟩:=hxr.sl_inv
  have hrl:=repL_of_us ds us q6
  refine ⟨ad,cap,_,hv,fun hpos=>⟨_,q4 hpos,?_⟩,hrl,repL_one hrl c3,q3⟩
  intro j u hj
  rw [Addr.add_lit]
  have hjl:j < ds.length:=by have:=(List.getElem?_eq_some_iff.1 hj).1;simpa using this
  simp [hjl] at hj
  subst hj
  exact h.imm _ _ _ (q5 j hjl)
 obtain ⟨ad,cx,news,hxv,hxa,hxr,hxo,hdl⟩:=hxx
 have hnl:news.length=m * k:=by rw [hxr.1,hdl]
 obtain ⟨adr,rfl,hcells⟩:=hxa h0
 have hz:∀q,∀u∈(Builtin.zeroCells z.cells q).toList,u.oneCell' = true:=by
  intro q u hu
  have hpos:0 < z.cells.size:=by rw [e5];exact e6
  simp only [Builtin.zeroCells,Array.toList_map,List.mem_map] at hu
  obtain ⟨j,-,rfl⟩:=hu
  have hj:j % z.cells.size < z.cells.size:=Nat.mod_lt _ hpos
  rw [getElem!_pos z.cells _ hj]
  exact e7 _ (Array.getElem_mem_toList hj)
 have nilc:a.eval (.tmp s) = .slice none 0 0→Does P Φ0 W M a w o { t:=upd (upd σ.t s (σ.t s).bare) d (.msl id 0 m k),b:=upd σ.b id (some ds),m:=σ.m }:=by
  intro hs0
  have hr:=run_append_nil (P:=P) w t o.type e i z hu e1 e2 adr m cx news (by rw [hnl,e3]) hcells (by omega) (by omega) (by rw [e4];omega)
  refine ⟨_,_,_,hrun _ _ (by rw [hs0,hxv];exact hr), .inl rfl,?_⟩
  rw [hd]
  exact Rel.freshBox h hlow hid hmid hM e (grownCap_ge w m 0 e) (grownCap_le_maxLen w m 0 e (by omega)) hxr hxo (hz _) hno
 have grow:∀(ad2:Addr) cap,a.eval (.tmp s) = .slice (some ad2) 0 cap→cap≤maxLen→¬(m≤cap)→Does P Φ0 W M a w o { t:=upd (upd σ.t s (σ.t s).bare) d (.msl id 0 m k),b:=upd σ.b id (some ds),m:=σ.m }:=by
  intro ad2 cap hsv hcapm hroom
  have hr:=run_append_grow (P:=P) w t o.type e i z hu e1 e2 ad2 0 cap [] (by simp) (fun j u hj=>by simp at hj) adr m cx news (by rw [hnl,e3]) hcells (by omega) (by omega) (growslice_fits (by omega) (by rw [e4,Nat.zero_add];exact c1))
  refine ⟨_,_,_,hrun _ _ (by rw [hsv,hxv];exact hr), .inl rfl,?_⟩
  rw [hd]
  have:=Rel.freshBox h (s:=s) hlow hid hmid hM (k:=k) (rest:=Builtin.zeroCells z.cells (grownCap w (0+m) cap e - (0+m))) e (Nat.le_trans (Nat.le_of_eq (Nat.zero_add m).symm) (grownCap_ge w (0+m) cap e)) (grownCap_le_maxLen w (0+m) cap e (by omega)) hxr hxo (hz _) hno
  simpa using this
 rcases hs with hs|hs
 ·have:=h.tmps s
  rw [hs] at this
  exact nilc this.nilsl_inv
 ·rcases h.own s 0 k [] e hs with ⟨hnil,-⟩|⟨g,cap,cur,hv,hB,hg,q1,q2,q3,q4,q5⟩|⟨hfull,-⟩
  ·exact nilc hnil
  ·have hsv:a.eval (.tmp s) = .slice (some ⟨g,0,none⟩) 0 cap:=hv
   by_cases hroom:m≤cap
   ·have hfit:0 * i.size+news.length≤cur.size:=by rw [hnl,q3,Nat.zero_mul,Nat.zero_add];exact Nat.mul_le_mul_right _ hroom
    have hr:=run_append_room (P:=P) w t o.type e i hu e1 g 0 cap cur hg adr m cx news (by rw [hnl,e3]) hcells hxo (by omega) hfit
    refine ⟨_,_,_,hrun _ _ (by rw [hsv,hxv];exact hr), .inl rfl,?_⟩
    rw [hd]
    have:=h.appendBox (s:=s) hlow hid hmid hM hg hroom q3 q4 (fun j=>q5.2 j (by rw [Nat.zero_mul];omega)) hB q2 hdl hxr hxo hno
    simpa using this
   ·exact grow _ cap hsv q2 hroom
  ·exact absurd hfull (Nat.not_le.2 he)
end
section
open Go.RowKit
variable {P:Program} {T:Tab} {σ:PS} {o:Oper} {i base:Nat} {ops:Array Oper} {ok:Nat→Nat→Bool} {rest:List (Nat×Oper)} {K:PS→Prop}
theorem PWops.appN {d s m k e by_:Nat} {ds zr:List PV} {own:Option TypeId} {x:Operand} {t:TypeId} {sz:Nat} {ag:Bool} {zz:List PV} {es:List SK} (hT:T=tabOf P) (hg:pguard ops σ o=some true) (hok:∀j id,ok j id=true) (hd:o.dst=some d) (hop:o.op = .call { callee:=.builtin .append,args := #[.tmp s,x],argTypes := #[t,t] })
  (hs:σ.t s = .nilsl∨σ.t s = .sl 0 k [] (some e)) (hx:pev σ x = .sl m k ds own) (ht:T.at t=some ⟨sz,ag, .slice e k by_ zr,zz,es⟩) (hb:σ.freeB (base+i)=true) (hlow:Nat.blt (base+i) 1000000=true) (he:Nat.blt e 1000000=true) (h1:m * by_≤140737488355328) (h2:m≤140737488355328) (h0:0 < m) (hone:ds.all PV.one=true) (hno:ds.all (fun c => !c.ownB)=true)
  (kn:PWops P T ops base ok rest K (((σ.put s (σ.t s).bare).setb (base+i) ds).put d (.msl (base+i) 0 m k))):PWops P T ops base ok ((i,o) :: rest) K σ:=by
 refine PWops.sem (E:=⟨.msl (base+i) 0 m k,[(base+i,ds)],some s,[]⟩) hg hok ?_ (by rw [hd];exact kn)
 intro Φ0 W M a w hM hrel
 obtain ⟨Φ,μ,ω,hr⟩:=hrel
 obtain ⟨q1,q2⟩:=PS.freeB_spec hb
 have:=appN_does hT hr o (id:=base+i) (by simpa [Nat.blt_eq] using hlow) q1 q2 hd (hM d hd) hop ht rfl hs (by simpa [Nat.blt_eq] using he) hx h1 h2 h0 hone (fun c hc=>by simpa using List.all_eq_true.1 hno c hc)
 rw [hd]
 exact this
end
section
open Go.RowKit
variable {Φ0:Ent} {W:World} {M:Nat} {Φ:Imm} {μ:Nat→Option Nat} {ω:Nat→Option Who} {σ:PS} {a:Act} {w:World} {P:Program} {T:Tab}
theorem RelG.still (h:RelG Φ0 W M Φ μ ω σ a w) {g:Nat} {cur:Array Value} {Ty:TypeId} (hg:w.heap[g]? = some (.cells cur Ty (0,0))) (hB:Mine Φ0 W g) (hω:ω g=none) (hΦ:∀j,Φ g j=none):RelG Φ0 W M (immRow Φ g cur) μ ω σ a w:=by
 refine h.grow h.below ?_ ?_ ?_ ?_ (Nat.le_refl _)
 ·intro b o u e
  unfold immRow at e
  split at e
  ·subst b;simp only [World.cell?,hg];simpa using e
  ·exact h.imm b o u e
 ·intro b o hb;unfold immRow;rw [if_neg];rintro rfl;exact hB.ne hb rfl
 ·intro b o u e;unfold immRow;rw [if_neg]
  ·exact e
  ·rintro rfl;rw [hΦ] at e;cases e
 ·intro g' p e
  refine ⟨rfl,fun j=>?_⟩
  unfold immRow;rw [if_neg];rintro rfl;rw [hω] at e;cases e
theorem RelG.see (h:RelG Φ0 W M Φ μ ω σ a w) {s:Nat} {p:PV} (hp:Rep Φ μ p (a.tmps.getD s undef)) (ho:p.ownB=false):RelG Φ0 W M Φ μ ω (σ.put s p) a w:=by
 refine { h with tmps:=fun u=>?_,own:=fun u n k cs E e=>?_ }
 ·by_cases hu:u=s
  ·subst hu;simp only [PS.put,upd_if,if_true];exact hp
  ·simp only [PS.put,upd_if,if_neg hu];exact h.tmps u
 ·by_cases hu:u=s
  ·subst hu;simp only [PS.put,upd_if,if_true] at e;rw [e] at ho;simp [PV.ownB] at ho
  ·simp only [PS.put,upd_if,if_neg hu] at e ⊢; exact h.own u n k cs E e
theorem Sub.freeze {σ' : PS} {id s n k:Nat} {cs:List PV} (hb:σ.b id=some cs) (hs:σ.t s = .msl id 0 n k) (hl:cs.length=n * k) (hlow:∀c∈cs,Low c) (hsub:SubR (fun i=>i) (Kn σ') σ σ') (hid:σ'.freeB id=true):Sub M σ (σ'.put s (.sl n k cs none)):=by
 rintro Φ0 W a w ⟨Φ,μ,ω,hg⟩
 have h1:=hsub.rel (fun i hi=>hi.spec) (fun i j _ _ e=>e) (fun i _ _ _=>rfl) hg
 obtain ⟨g,cur,Ty,b1,b2,b3,b4,b5,b6,b7⟩:=hg.box id cs hb
 have hun:unren (fun i=>i) (Kn σ') (ω g)=none:=by
  rw [b4]
  unfold unren
  split
  ·rename_i h2;cases h2
  ·split
   ·rename_i hh
    obtain ⟨q,⟨i,hi,hq⟩,e⟩:=hh
    exfalso
    rcases hq with rfl|⟨j,rfl⟩
    ·simp only [renW,Option.some.injEq,Who.box.injEq] at e
     subst e
     rw [Kn,hid] at hi;cases hi
    ·simp [renW] at e
   ·rfl
 have h2:=h1.still b2 b3 hun b5
 refine ⟨_,_,_,h2.see ?_ rfl⟩
 have hv:=hg.tmps s
 rw [hs] at hv
 obtain ⟨ad,cap,hvv,c1,c2,c4⟩:=hv.msl_inv
 rw [hvv]
 rcases Nat.eq_zero_or_pos n with h0|h0
 ·subst h0
  have:cs = []:=List.eq_nil_of_length_eq_zero (by simpa using hl)
  subst this
  exact .sl0 _ _ _ _ (by assumption)
 ·obtain ⟨g',hg',rfl⟩:=c4 h0
  rw [b1] at hg'; cases hg'
  refine .sl n k cs none g 0 cap (fun j=>cur.getD j undef) hl (by assumption) (by assumption) (fun j hj=>?_) (fun j c hc=>?_)
  ·unfold immRow
   rw [if_pos rfl,Nat.zero_add,Array.getD_eq_getD_getElem?]
   rw [Array.getElem?_eq_getElem (by omega)];rfl
  ·obtain ⟨u,r1,r2,r3,-⟩:=b7 j c hc
   rw [Array.getD_eq_getD_getElem?,r1]
   refine Rep.mono (Φ:=Φ) (fun b o u e=>?_) (fun _ _ e=>e) (r3.low (hlow c (mem_of_get hc)))
   unfold immRow
   rw [if_neg]
   ·exact e
   ·rintro rfl;rw [b5] at e;cases e
theorem PW.freeze {σ' : PS} {id s n k:Nat} {cs:List PV} {c:Code} {Q:Exit→PS→Prop} (hb:σ.b id=some cs) (hs:σ.t s = .msl id 0 n k) (hl:cs.length=n * k) (hlow:∀c∈cs,Low c) (hsub:SubR (fun i=>i) (Kn σ') σ σ') (hid:σ'.freeB id=true) (h:PW P M c Q (σ'.put s (.sl n k cs none))):PW P M c Q σ:=
 h.sub (Sub.freeze hb hs hl hlow hsub hid)
theorem Sub.freezeP {σ' : PS} {id s off:Nat} {cs:List PV} (hb:σ.b id=some cs) (hs:σ.t s = .ptr id off) (hlow:∀c∈cs,Low c) (hsub:SubR (fun i=>i) (Kn σ') σ σ') (hid:σ'.freeB id=true):Sub M σ (σ'.put s (.ep cs off)):=by
 rintro Φ0 W a w ⟨Φ,μ,ω,hg⟩
 have h1:=hsub.rel (fun i hi=>hi.spec) (fun i j _ _ e=>e) (fun i _ _ _=>rfl) hg
 obtain ⟨g,cur,Ty,b1,b2,b3,b4,b5,b6,b7⟩:=hg.box id cs hb
 have hun:unren (fun i=>i) (Kn σ') (ω g)=none:=by
  rw [b4]
  unfold unren
  split
  ·rename_i h2;cases h2
  ·split
   ·rename_i hh
    obtain ⟨q,⟨i,hi,hq⟩,e⟩:=hh
    exfalso
    rcases hq with rfl|⟨j,rfl⟩
    ·simp only [renW,Option.some.injEq,Who.box.injEq] at e
     subst e
     rw [Kn,hid] at hi;cases hi
    ·simp [renW] at e
   ·rfl
 have h2:=h1.still b2 b3 hun b5
 refine ⟨_,_,_,h2.see ?_ rfl⟩
 have hv:=hg.tmps s
 rw [hs] at hv
 obtain ⟨g',hg',hvv⟩:=hv.ptr_inv
 rw [b1] at hg'; cases hg'
 rw [hvv]
 have e0:(⟨g,off,none⟩:Addr)=⟨g,0+off,none⟩:=by rw [Nat.zero_add]
 rw [e0]
 refine .ep cs off g 0 (fun j=>cur.getD j undef) (fun j hj=>?_) (fun j c hc=>?_)
 ·unfold immRow
  rw [if_pos rfl,Nat.zero_add,Array.getD_eq_getD_getElem?]
  rw [Array.getElem?_eq_getElem (by omega)];rfl
 ·obtain ⟨u,r1,r2,r3,-⟩:=b7 j c hc
  rw [Array.getD_eq_getD_getElem?,r1]
  refine Rep.mono (Φ:=Φ) (fun b o u e=>?_) (fun _ _ e=>e) (r3.low (hlow c (mem_of_get hc)))
  unfold immRow
  rw [if_neg]
  ·exact e
  ·rintro rfl;rw [b5] at e;cases e
theorem PW.freezeP {σ' : PS} {id s off:Nat} {cs:List PV} {c:Code} {Q:Exit→PS→Prop} (hb:σ.b id=some cs) (hs:σ.t s = .ptr id off) (hlow:∀c∈cs,Low c) (hsub:SubR (fun i=>i) (Kn σ') σ σ') (hid:σ'.freeB id=true) (h:PW P M c Q (σ'.put s (.ep cs off))):PW P M c Q σ:=
 h.sub (Sub.freezeP hb hs hlow hsub hid)
end
section
open Go.RowKit
def renN:List (Nat×Nat)→Nat→Nat
 | [],i=>i
 |(a,b) :: l,i=>cond (Nat.beq i a) b (renN l i)
theorem renN_mem:∀{l:List (Nat×Nat)} {i:Nat},i∈l.map (·.1)→(i,renN l i)∈l
 | [],i,h=>by simp at h
 |(a,b) :: l,i,h=>by
  unfold renN
  cases e:Nat.beq i a with
  |true=>
   have e':=Nat.eq_of_beq_eq_true e
   subst e'; exact List.mem_cons_self ..
  |false=>
   refine List.mem_cons_of_mem _ (renN_mem ?_)
   rcases List.mem_cons.1 h with rfl|h
   ·rw [Nat.beq_refl] at e;cases e
   ·exact h
theorem renN_inj {l:List (Nat×Nat)} (h2:(l.map (·.2)).Nodup):∀i∈l.map (·.1),∀j∈l.map (·.1),renN l i=renN l j→i=j:=by
 intro i hi j hj e
 have h3:=renN_mem hi
 have h4:=renN_mem hj
 rw [e] at h3
 have key:∀{l:List (Nat×Nat)} {a b c:Nat},(l.map (·.2)).Nodup→(a,c)∈l→(b,c)∈l→a=b:=by
  intro l
  induction l with
  |nil=>intro a b c _ h;simp at h
  |cons x l ih=>
   intro a b c hn ha hb
   simp only [List.map_cons,List.nodup_cons] at hn
   rcases List.mem_cons.1 ha with ha|ha<;>rcases List.mem_cons.1 hb with hb|hb
   ·rw [←ha] at hb;cases hb;rfl
   ·exact absurd (List.mem_map.2 ⟨_,hb,by rw [←ha]⟩) hn.1
   ·exact absurd (List.mem_map.2 ⟨_,ha,by rw [←hb]⟩) hn.1
   ·exact ih hn.2 ha hb
 exact key h2 h3 h4
end
section
open Go.RowKit
variable {S:Nat→Prop}
theorem li_nil:∀p∈([]:List PV),LowI S p:=by simp
theorem li_cons {p:PV} {ps:List PV} (h:LowI S p) (hs:∀q∈ps,LowI S q):∀q∈p :: ps,LowI S q:=by
 intro q hq
 rcases List.mem_cons.1 hq with rfl|hq
 ·exact h
 ·exact hs q hq
theorem li_low {ps:List PV} (h:∀p∈ps,Low p):∀p∈ps,LowI S p:=fun p hp=>(h p hp).lowI
theorem lb_nil:∀x∈([]:List (Nat×List PV)),∀p∈x.2,LowI S p:=by simp
theorem lb_cons {i:Nat} {bs:List PV} {l:List (Nat×List PV)} (h:∀p∈bs,LowI S p) (hs:∀x∈l,∀p∈x.2,LowI S p):∀x∈(i,bs) :: l,∀p∈x.2,LowI S p:=by
 intro x hx
 rcases List.mem_cons.1 hx with rfl|hx
 ·exact h
 ·exact hs x hx
theorem lm_nil:∀x∈([]:List (Nat×PMap)),LowM S x.2:=by simp
theorem lm_cons {i:Nat} {es:List (Nat×PV×PV)} {c:Nat} {l:List (Nat×PMap)} (h:∀e∈es,Low e.2.1∧Low e.2.2) (hs:∀x∈l,LowM S x.2):∀x∈(i,PMap.map es c) :: l,LowM S x.2:=by
 intro x hx
 rcases List.mem_cons.1 hx with rfl|hx
 ·exact fun e he=>⟨(h e he).1.lowI,(h e he).2.lowI⟩
 ·exact hs x hx
end
section
open Go.RowKit
variable {ρ:Nat→Nat} {S:Nat→Prop} {ps qs:List PV}
theorem ren_agg (h:RenL ρ S ps qs):Ren ρ S (.agg ps) (.agg qs):=.agg _ _ h.1 h.2
theorem ren_fn {f:FuncId} (h:RenL ρ S ps qs):Ren ρ S (.fn f ps) (.fn f qs):=.fn _ _ _ h.1 h.2
theorem ren_sl {n k:Nat} (h:RenL ρ S ps qs):Ren ρ S (.sl n k ps none) (.sl n k qs none):=.sl _ _ _ _ h.1 h.2
end
section
open Go.RowKit
theorem HCalls.at {P:Program} {f:FuncId} {args args' : List PV} {given given' res res' : List (Nat×List PV)} {gm gm' rm rm' : List (Nat×PMap)} {r r' : PV} (h:HCalls P f args given gm r res rm) (L:List (Nat×Nat)) (hd:(L.map (·.2)).Nodup) (hs:∀i∈ResIds res rm,i∈L.map (·.1)) (hs1:∀i∈given.map (·.1),i∈res.map (·.1)) (hs2:∀i∈gm.map (·.1),i∈rm.map (·.1))
  (ha:RenL (renN L) (fun i=>i∈ResIds given gm) args args') (hg:RenB (renN L) (fun i=>i∈ResIds given gm) given given') (hm:RenMs (renN L) (fun i=>i∈ResIds given gm) gm gm')
  (hr:Ren (renN L) (fun i=>i∈ResIds res rm) r r') (hres:RenB (renN L) (fun i=>i∈ResIds res rm) res res') (hrm:RenMs (renN L) (fun i=>i∈ResIds res rm) rm rm'):HCalls P f args' given' gm' r' res' rm':=
 h.ren (renN L) hs1 hs2 (fun i hi j hj e=>renN_inj hd i (hs i hi) j (hs j hj) e) ha hg hm hr hres hrm
def GivO (ω:Nat→Option Who) (ids:List Nat) (args:List PV) (g:Nat):Prop:=Giv ω ids g∨∃(i:Nat) (p:PV),args[i]? = some p∧p.ownB=true∧ω g=some (.tmp i)
def NewO (ω:Nat→Option Who) (w:World) (ids:List Nat) (args:List PV) (g:Nat):Prop:=w.heap.size≤g∨GivO ω ids args g
def OPost (Φ:Imm) (μ:Nat→Option Nat) (ω:Nat→Option Who) (w:World) (ids:List Nat) (args:List PV) (r:PV) (res:List (Nat×List PV)) (rm:List (Nat×PMap)) (e:Ending) (w' : World):Prop:=
 ∃v Φ' μ' ω',e = .returned v∧Rep Φ' μ' r v∧(∀b o u,Φ' b o=some u→w'.cell? ⟨b,o,none⟩=some u)∧(∀b o u,Φ b o=some u→Φ' b o=some u)∧(∀b o,b < w.heap.size→¬GivO ω ids args b→Φ' b o=Φ b o) ∧
  Kept (fun b=>b < w.heap.size∧¬GivO ω ids args b) w w'∧(∀id∈ids,μ' id=μ id)∧(∀id g,μ' id=some g→id∈ResIds res rm)∧(∀x∈res,BoxAt (NewO ω w ids args) Φ' μ' ω' w' x.1 x.2)∧(∀x∈rm,MapAt (NewO ω w ids args) Φ' μ' ω' w' x.1 x.2) ∧
  (∀g p,ω' g=some p→g < w'.heap.size∧NewO ω w ids args g)∧(∀n k cs E,r = .sl n k cs (some E)→OwnAt (NewO ω w ids args) Φ' ω' w' (.tmp 0) n k E v)
def OCalls (P:Program) (f:FuncId) (args:List PV) (given:List (Nat×List PV)) (gm:List (Nat×PMap)) (r:PV) (res:List (Nat×List PV)) (rm:List (Nat×PMap)):Prop:=
 callB P f=true∧∀(Φ:Imm) (μ:Nat→Option Nat) (ω:Nat→Option Who) (w:World) (vs:List Value),(∀b o u,Φ b o=some u→w.cell? ⟨b,o,none⟩=some u)→GlobOK Φ→RepL Φ μ args vs →
  (∀x∈given,BoxAt (fun _=>True) Φ μ ω w x.1 x.2)→(∀x∈gm,MapAt (fun _=>True) Φ μ ω w x.1 x.2)→(∀g p,ω g=some p→g < w.heap.size) →
  (∀(i n k:Nat) (cs:List PV) (E:TypeId) (v:Value),args[i]? = some (PV.sl n k cs (some E))→vs[i]? = some v→OwnAt (fun _=>True) Φ ω w (.tmp i) n k E v)→Calls P f vs.toArray w (OPost Φ μ ω w (ResIds given gm) args r res rm)
theorem own_mix {Φ:Imm} {μ:Nat→Option Nat} {n k g cap:Nat} {cs:List PV} {own:Option TypeId} (hr:Rep Φ μ (.sl n k cs own) (.slice (some ⟨g,0,none⟩) n cap)) (hf:∀j,n * k≤j→Φ g j=none) (hc:cs = []∨∃(j:Nat) (c:PV),cs[j]? = some c∧noI64 c=true):Mix Φ g:=by
 intro o u e
 obtain ⟨a,b,off,cap',us,hv,-,-,q3,q4,q5,q6⟩:=hr.sl_inv
 have ho:o < n * k:=by
  rcases Nat.lt_or_ge o (n * k) with h|h
  ·exact h
  ·rw [hf o h] at e;cases e
 have hn:0 < n:=by
  rcases Nat.eq_zero_or_pos n with h|h
  ·subst h;simp at ho
  ·exact h
 cases hv
 have h4:=q4 hn
 cases h4
 rcases hc with rfl|⟨j,c,hj,hc⟩
 ·simp at q3;omega
 ·have hjl:j < cs.length:=(List.getElem?_eq_some_iff.1 hj).1
  have h5:=q5 j hjl
  rw [Nat.zero_add] at h5
  exact ⟨j,_,h5,(q6 j c hj).noI64 hc⟩
open Classical in
theorem OCalls.ren {P:Program} {f:FuncId} {args args' : List PV} {given given' res res' : List (Nat×List PV)} {gm gm' rm rm' : List (Nat×PMap)} {r r' : PV} (h:OCalls P f args given gm r res rm) (ρ:Nat→Nat) (hs1:∀i∈given.map (·.1),i∈res.map (·.1)) (hs2:∀i∈gm.map (·.1),i∈rm.map (·.1))
  (hinj:∀i∈ResIds res rm,∀j∈ResIds res rm,ρ i=ρ j→i=j) (ha:RenL ρ (fun i=>i∈ResIds given gm) args args') (hg:RenB ρ (fun i=>i∈ResIds given gm) given given') (hm:RenMs ρ (fun i=>i∈ResIds given gm) gm gm')
  (hr:Ren ρ (fun i=>i∈ResIds res rm) r r') (hres:RenB ρ (fun i=>i∈ResIds res rm) res res') (hrm:RenMs ρ (fun i=>i∈ResIds res rm) rm rm'):OCalls P f args' given' gm' r' res' rm':=by
 refine ⟨h.1,fun Φ μ ω w vs himm hgl hrep hgb hgmm hlt hown=>?_⟩
 have hsub:∀i∈ResIds given gm,i∈ResIds res rm:=by
  intro i hi
  rcases List.mem_append.1 hi with hi|hi
  ·exact List.mem_append.2 (.inl (hs1 i hi))
  ·exact List.mem_append.2 (.inr (hs2 i hi))
 obtain ⟨g1,g2,g3⟩:=hg.mem
 obtain ⟨m1,m2,m3⟩:=hm.mem
 obtain ⟨b1,b2,b3⟩:=hres.mem
 obtain ⟨c1,c2,c3⟩:=hrm.mem
 have hids:ResIds given' gm' = (ResIds given gm).map ρ:=by simp only [ResIds,g3,m3,List.map_append]
 have hrids:ResIds res' rm' = (ResIds res rm).map ρ:=by simp only [ResIds,b3,c3,List.map_append]
 let μ1:Nat→Option Nat:=fun i=>if i∈ResIds given gm then μ (ρ i) else none
 let ω1:Nat→Option Who:=fun g=>if hh:∃q,((∃i∈ResIds given gm,OfId i q)∨∃t,q=Who.tmp t)∧ω g=some (renW ρ q) then some hh.choose else none
 have winj:∀q q',((∃i∈ResIds given gm,OfId i q)∨∃t,q=Who.tmp t)→((∃i∈ResIds given gm,OfId i q')∨∃t,q' = Who.tmp t)→renW ρ q=renW ρ q'→q=q':=by
  rintro q q' (⟨i,hi,hq⟩|⟨t,rfl⟩) (⟨j,hj,hq'⟩|⟨t',rfl⟩) e
  ·rcases hq with rfl|⟨x,rfl⟩<;>rcases hq' with rfl|⟨y,rfl⟩
   ·simp only [renW,Who.box.injEq] at e;rw [hinj i (hsub i hi) j (hsub j hj) e]
   ·simp [renW] at e
   ·simp [renW] at e
   ·simp only [renW,Who.cell.injEq] at e;rw [hinj i (hsub i hi) j (hsub j hj) e.1,e.2]
  ·rcases hq with rfl|⟨x,rfl⟩<;>simp [renW] at e
  ·rcases hq' with rfl|⟨y,rfl⟩<;>simp [renW] at e
  ·simpa [renW] using e
 have hω1:∀g q,((∃i∈ResIds given gm,OfId i q)∨∃t,q=Who.tmp t)→(ω1 g=some q↔ω g=some (renW ρ q)):=by
  intro g q hq
  constructor
  ·intro e
   have e' : (if hh:∃q,((∃i∈ResIds given gm,OfId i q)∨∃t,q=Who.tmp t)∧ω g=some (renW ρ q) then some hh.choose else none)=some q:=e
   split at e'
   ·rename_i hh
    have:=hh.choose_spec.2
    cases e'
    exact this
   ·cases e'
  ·intro e
   show (if hh:_ then _ else _)=_
   have hh:∃q,((∃i∈ResIds given gm,OfId i q)∨∃t,q=Who.tmp t)∧ω g=some (renW ρ q):=⟨q,hq,e⟩
   rw [dif_pos hh]
   have h2:=hh.choose_spec
   have h3:some (renW ρ q)=some (renW ρ hh.choose):=e.symm.trans h2.2
   simp only [Option.some.injEq] at h3
   rw [winj _ _ h2.1 hq h3.symm]
 have hω1' : ∀g q,ω1 g=some q→((∃i∈ResIds given gm,OfId i q)∨∃t,q=Who.tmp t)∧ω g=some (renW ρ q):=by
  intro g q e
  have e' : (if hh:∃q,((∃i∈ResIds given gm,OfId i q)∨∃t,q=Who.tmp t)∧ω g=some (renW ρ q) then some hh.choose else none)=some q:=e
  split at e'
  ·rename_i hh
   have:=hh.choose_spec
   cases e'
   exact this
  ·cases e'
 have hgiv0:∀g,Giv ω1 (ResIds given gm) g↔Giv ω (ResIds given' gm') g:=by
  intro g
  constructor
  ·rintro ⟨i,hi,q,hq,e⟩
   refine ⟨ρ i,by rw [hids];exact List.mem_map.2 ⟨i,hi,rfl⟩,renW ρ q,?_,(hω1' g q e).2⟩
   rcases hq with rfl|⟨j,rfl⟩
   ·exact .inl rfl
   ·exact .inr ⟨j,rfl⟩
  ·rintro ⟨i',hi0,q',hq,e⟩
   rw [hids] at hi0
   obtain ⟨i,hi,rfl⟩:=List.mem_map.1 hi0
   rcases hq with rfl|⟨j,rfl⟩
   ·exact ⟨i,hi, .box i, .inl rfl,(hω1 g _ (.inl ⟨i,hi, .inl rfl⟩)).2 e⟩
   ·exact ⟨i,hi, .cell i j, .inr ⟨j,rfl⟩,(hω1 g _ (.inl ⟨i,hi, .inr ⟨j,rfl⟩⟩)).2 e⟩
 have hag:∀(i n k:Nat) (cs:List PV) (E:TypeId),args[i]? = some (PV.sl n k cs (some E))↔args'[i]? = some (PV.sl n k cs (some E)):=by
  intro i n k cs E
  constructor
  ·intro e
   obtain ⟨q,hq⟩:=get_of_len ha.1.symm e
   have:=(ha.2 i _ q e hq).own (.inl rfl)
   rw [this];exact hq
  ·intro e
   obtain ⟨q,hq⟩:=get_of_len ha.1 e
   have:=(ha.2 i q _ hq e).own (.inr rfl)
   rw [←this];exact hq
 have hgiv:∀g,GivO ω1 (ResIds given gm) args g↔GivO ω (ResIds given' gm') args' g:=by
  intro g
  constructor
  ·rintro (h1|⟨i,p,h1,h2,h3⟩)
   ·exact .inl ((hgiv0 g).1 h1)
   ·obtain ⟨q,hq⟩:=get_of_len ha.1.symm h1
    have e:=(ha.2 i p q h1 hq).own (.inl h2)
    exact .inr ⟨i,q,hq,by rw [←e];exact h2,(hω1' g _ h3).2⟩
  ·rintro (h1|⟨i,p,h1,h2,h3⟩)
   ·exact .inl ((hgiv0 g).2 h1)
   ·obtain ⟨q,hq⟩:=get_of_len ha.1 h1
    have e:=(ha.2 i q p hq h1).own (.inr h2)
    exact .inr ⟨i,q,hq,by rw [e];exact h2,(hω1 g (.tmp i) (.inr ⟨i,rfl⟩)).2 h3⟩
 have hμ1:∀i,i∈ResIds given gm→∀g,μ (ρ i)=some g→μ1 i=some g:=fun i hi g e=>by show (if _ then _ else _)=_;rw [if_pos hi];exact e
 have hrep1:RepL Φ μ1 args vs:=⟨by rw [hrep.1,ha.1],fun j p u hp hu=>by
  obtain ⟨q,hq⟩:=get_of_len ha.1.symm hp
  exact (ha.2 j p q hp hq).bwd hμ1 (hrep.2 j q u hq hu)⟩
 refine (h.2 Φ μ1 ω1 w vs himm hgl hrep1 (fun x hx=>?_) (fun x hx=>?_) (fun g p e=>hlt g _ (hω1' g p e).2) (fun i n k cs E v h1 h2=>?_)).mono ?_
 ·obtain ⟨y,hy,e1,e2⟩:=g1 x hx
  have hi:x.1∈ResIds given gm:=List.mem_append.2 (.inl (List.mem_map.2 ⟨x,hx,rfl⟩))
  have:=hgb y hy
  rw [e1] at this
  exact this.bwd hi e2 hμ1 (fun q hq g e=>⟨(hω1 g q (.inl ⟨x.1,hi,hq⟩)).2 e,fun _=>trivial⟩)
 ·obtain ⟨y,hy,e1,e2⟩:=m1 x hx
  have hi:x.1∈ResIds given gm:=List.mem_append.2 (.inr (List.mem_map.2 ⟨x,hx,rfl⟩))
  have:=hgmm y hy
  rw [e1] at this
  exact this.bwd hi e2 hμ1 (fun q hq g e=>⟨(hω1 g q (.inl ⟨x.1,hi,hq⟩)).2 e,fun _=>trivial⟩)
 ·rcases hown i n k cs E v ((hag i n k cs E).1 h1) h2 with q|⟨g,cap,cur,q1,q2,q3,q4,q5,q6,q7,q8⟩|q
  ·exact .inl q
  ·exact .inr (.inl ⟨g,cap,cur,q1,trivial,q3,q4,q5,q6,(hω1 g (.tmp i) (.inr ⟨i,rfl⟩)).2 q7,q8⟩)
  ·exact .inr (.inr q)
 rintro e w' ⟨v,Φ',μ',ω',rfl,k1,k2,k3,k4,k5,k6,k7,k8,k9,k10,k11⟩
 let μ2:Nat→Option Nat:=fun i' => if hh:∃i∈ResIds res rm,ρ i=i' then μ' hh.choose else none
 have hμ2:∀i,i∈ResIds res rm→μ2 (ρ i)=μ' i:=by
  intro i hi
  show (if hh:_ then _ else _)=_
  have hh:∃j∈ResIds res rm,ρ j=ρ i:=⟨i,hi,rfl⟩
  rw [dif_pos hh]
  have:=hh.choose_spec
  rw [hinj _ this.1 _ hi this.2]
 have hμ2' : ∀i,i∈ResIds res rm→∀g,μ' i=some g→μ2 (ρ i)=some g:=fun i hi g e=>by rw [hμ2 i hi];exact e
 let ω2:Nat→Option Who:=fun g=>(ω' g).map (renW ρ)
 have hnew:∀g,NewO ω1 w (ResIds given gm) args g↔NewO ω w (ResIds given' gm') args' g:=fun g=>or_congr Iff.rfl (hgiv g)
 refine ⟨v,Φ',μ2,ω2,rfl,hr.fwd hμ2' k1,k2,k3,fun b o hb hng=>k4 b o hb (fun hh=>hng ((hgiv b).1 hh)),k5.mono fun k hk=>⟨hk.1,fun hh=>hk.2 ((hgiv k).1 hh)⟩,fun i' hi' => ?_,fun i' g e=>?_,fun y hy=>?_,fun y hy=>?_,fun g p e=>?_,fun n k cs E e=>?_⟩
 ·rw [hids] at hi'
  obtain ⟨i,hi,rfl⟩:=List.mem_map.1 hi'
  rw [hμ2 i (hsub i hi),k6 i hi]
  show (if _ then _ else _)=_
  rw [if_pos hi]
 ·have e' : (if hh:∃i∈ResIds res rm,ρ i=i' then μ' hh.choose else none)=some g:=e
  split at e'
  ·rename_i hh
   obtain ⟨i,hi,rfl⟩:=hh
   rw [hrids];exact List.mem_map.2 ⟨i,hi,rfl⟩
  ·cases e'
 ·obtain ⟨x,hx,e1,e2⟩:=b2 y hy
  have hi:x.1∈ResIds res rm:=List.mem_append.2 (.inl (List.mem_map.2 ⟨x,hx,rfl⟩))
  rw [e1]
  exact (k8 x hx).fwd hi e2 hμ2' (fun q hq g e=>⟨by show (ω' g).map _=_;rw [e];rfl,fun hb=>(hnew g).1 hb⟩)
 ·obtain ⟨x,hx,e1,e2⟩:=c2 y hy
  have hi:x.1∈ResIds res rm:=List.mem_append.2 (.inr (List.mem_map.2 ⟨x,hx,rfl⟩))
  rw [e1]
  exact (k9 x hx).fwd hi e2 hμ2' (fun q hq g e=>⟨by show (ω' g).map _=_;rw [e];rfl,fun hb=>(hnew g).1 hb⟩)
 ·have e' : (ω' g).map (renW ρ)=some p:=e
  obtain ⟨q,hq,-⟩:=Option.map_eq_some_iff.1 e'
  exact ⟨(k10 g q hq).1,(hnew g).1 (k10 g q hq).2⟩
 ·have hre:r=r':=hr.own (.inr (by rw [e];rfl))
  rcases k11 n k cs E (by rw [hre,e]) with q|⟨g',cap,cur',q1,q2,q3,q4,q5,q6,q7,q8⟩|q
  ·exact .inl q
  ·exact .inr (.inl ⟨g',cap,cur',q1,(hnew g').1 q2,q3,q4,q5,q6,by show (ω' g').map _=_;rw [q7];rfl,q8⟩)
  ·exact .inr (.inr q)
theorem OCalls.at {P:Program} {f:FuncId} {args args' : List PV} {given given' res res' : List (Nat×List PV)} {gm gm' rm rm' : List (Nat×PMap)} {r r' : PV} (h:OCalls P f args given gm r res rm) (L:List (Nat×Nat)) (hd:(L.map (·.2)).Nodup) (hs:∀i∈ResIds res rm,i∈L.map (·.1)) (hs1:∀i∈given.map (·.1),i∈res.map (·.1)) (hs2:∀i∈gm.map (·.1),i∈rm.map (·.1))
  (ha:RenL (renN L) (fun i=>i∈ResIds given gm) args args') (hg:RenB (renN L) (fun i=>i∈ResIds given gm) given given') (hm:RenMs (renN L) (fun i=>i∈ResIds given gm) gm gm')
  (hr:Ren (renN L) (fun i=>i∈ResIds res rm) r r') (hres:RenB (renN L) (fun i=>i∈ResIds res rm) res res') (hrm:RenMs (renN L) (fun i=>i∈ResIds res rm) rm rm'):OCalls P f args' given' gm' r' res' rm':=
 h.ren (renN L) hs1 hs2 (fun i hi j hj e=>renN_inj hd i (hs i hi) j (hs j hj) e) ha hg hm hr hres hrm
end
section
open Go.RowKit
variable {Φ0:Ent} {W:World} {M:Nat} {Φ:Imm} {μ:Nat→Option Nat} {ω:Nat→Option Who} {σ:PS} {a:Act} {w:World} {P:Program} {T:Tab}
theorem RelG.rebaseA (h:RelG Φ0 W M Φ μ ω σ a w) {Φ1:Ent} {W1:World} {a' : Act} (ht:a'.tmps=a.tmps) (hb:Kept (Old Φ1 W1) W1 w) (hd:a'.defers=Φ1.marks.map collD∧RndOK Φ1 W1) (ho:∀b o,Old Φ1 W1 b→Φ b o=Φ1.imm b o)
  (hg:∀id g,Φ1.mu id=some g→1000000≤id) (hk:∀id g,Φ1.mu id=some g→(σ.b id≠none∨σ.m id≠none)→μ id=some g) (he:∀b o u,Φ1.imm b o=some u→Φ b o=some u∧b < W1.heap.size) (hm:∀g p,ω g=some p→Mine Φ1 W1 g):RelG Φ1 W1 M Φ μ ω σ a' w:=
 ⟨hb,hd,by rw [ht];exact h.size,h.imm,ho,by rw [ht];exact h.tmps,fun t n k cs E e=>by rw [ht];exact (h.own t n k cs E e).inB (fun g e=>hm g _ e),fun id bs e=>(h.box id bs e).inB (fun g q _ e=>hm g q e),h.gone,h.lt,hg,hk,he,fun id X e=>(h.map id X e).inB (fun g q _ e=>hm g q e),hm⟩
def OwnsX (c:PV):Prop:=∀n k cs E,c = .sl n k cs (some E)→cs = []∨∃(j:Nat) (c:PV),cs[j]? = some c∧noI64 c=true
theorem ownsX_no {c:PV} (h:c.ownB=false):OwnsX c:=fun n k cs E e=>by rw [e] at h;simp [PV.ownB] at h
theorem OwnAt.mixJ {B B' : Nat→Prop} {Φ:Imm} {μ:Nat→Option Nat} {ω ω' : Nat→Option Who} {w:World} {p:Who} {n k:Nat} {cs:List PV} {E:TypeId} {v:Value} (h:OwnAt B Φ ω w p n k E v) (hr:Rep Φ μ (.sl n k cs (some E)) v) (ho:OwnsX (.sl n k cs (some E))) (hω:∀g,ω g=some p→Mix Φ g→ω' g=some p∧B' g):OwnAt B' Φ ω' w p n k E v:=by
 rcases h with h|⟨g,cap,cur,rfl,h2,h3,h4,h5,h6,h7,h8⟩|h
 ·exact .inl h
 ·obtain ⟨k1,k2⟩:=hω g h7 (own_mix hr h8.2 (ho n k cs E rfl))
  exact .inr (.inl ⟨g,cap,cur,rfl,k2,h3,h4,h5,h6,k1,h8⟩)
 ·exact .inr (.inr h)
structure OwnsS (σ:PS):Prop where
 t:∀t,(σ.t t).ownB=false
 b:∀id bs,σ.b id=some bs→∀c∈bs,OwnsX c
 m:∀id es clock,σ.m id=some (.map es clock)→∀e∈es,OwnsX e.2.2
theorem ownsS_bot:OwnsS bot:=⟨fun _=>rfl,fun _ _ e=>(by cases e),fun _ _ _ e=>(by cases e)⟩
theorem OwnsS.put {σ:PS} (h:OwnsS σ) {d:Nat} {p:PV} (hp:p.ownB=false):OwnsS (σ.put d p):=by
 refine ⟨fun t=>?_,h.b,h.m⟩
 simp only [PS.put,upd_if]
 split
 ·exact hp
 ·exact h.t t
theorem OwnsS.setb {σ:PS} (h:OwnsS σ) {i:Nat} {bs:List PV} (hp:∀c∈bs,OwnsX c):OwnsS (σ.setb i bs):=by
 refine ⟨h.t,fun id cs e=>?_,h.m⟩
 simp only [PS.setb,upd_if] at e
 split at e
 ·cases e;exact hp
 ·exact h.b id cs e
theorem OwnsS.setm {σ:PS} (h:OwnsS σ) {i:Nat} {X:PMap} (hp:∀es clock,X = .map es clock→∀e∈es,OwnsX e.2.2):OwnsS (σ.setm i X):=by
 refine ⟨h.t,h.b,fun id es clock e=>?_⟩
 simp only [PS.setm,upd_if] at e
 split at e
 ·cases e;exact hp es clock rfl
 ·exact h.m id es clock e
theorem ownsX_nil:∀c∈([]:List PV),OwnsX c:=fun c h=>by cases h
theorem ownsX_cons {c:PV} {cs:List PV} (h:OwnsX c) (hs:∀c∈cs,OwnsX c):∀d∈c :: cs,OwnsX d:=by
 intro d hd
 rcases List.mem_cons.1 hd with rfl|hd
 ·exact h
 ·exact hs d hd
open Classical in
theorem RelG.mixed (h:RelG Φ0 W M Φ μ ω σ a w) (ho:OwnsS σ):∃ωm,RelG Φ0 W M Φ μ ωm σ a w∧∀g p,ωm g=some p→ω g=some p∧Mix Φ g:=by
 let ωm:Nat→Option Who:=fun g=>if Mix Φ g then ω g else none
 have h1:∀g p,ωm g=some p→ω g=some p∧Mix Φ g:=by
  intro g p e
  have e' : (if Mix Φ g then ω g else none)=some p:=e
  split at e'
  ·rename_i hm;exact ⟨e',hm⟩
  ·cases e'
 have h2:∀g p,ω g=some p→Mix Φ g→ωm g=some p:=fun g p e hm=>by show (if _ then _ else _)=_;rw [if_pos hm];exact e
 have h3:∀g,(∀j,Φ g j=none)→Mix Φ g:=fun g hj o u e=>by rw [hj] at e;cases e
 refine ⟨ωm,⟨h.below,h.defers,h.size,h.imm,h.old,h.tmps,fun t n k cs E e=>?_,fun id bs e=>?_,h.gone,fun g p e=>h.lt g p (h1 g p e).1,h.gmu,h.kmu,h.ext,fun id X e=>?_,fun g p e=>h.mine g p (h1 g p e).1⟩,h1⟩
 ·have:=ho.t t
  rw [e] at this
  simp [PV.ownB] at this
 ·obtain ⟨g,cur,Ty,k1,k2,k3,k4,k5,k6,k7⟩:=h.box id bs e
  refine ⟨g,cur,Ty,k1,k2,k3,h2 g _ k4 (h3 g k5),k5,k6,fun j c hc=>?_⟩
  obtain ⟨u,r1,r2,r3,r4⟩:=k7 j c hc
  refine ⟨u,r1,r2,r3,fun n k cs E e' => (r4 n k cs E e').mixJ (cs:=cs) (μ:=μ) (by rw [←e'];exact r3) (by rw [←e'];exact ho.b id bs e c (mem_of_get hc)) (fun g' e2 hno=>⟨h2 g' _ e2 hno,h.mine g' _ e2⟩)⟩
 ·obtain ⟨g,k1,k2,k3,k4,k5⟩:=h.map id X e
  refine ⟨g,k1,k2,h2 g _ k3 (h3 g k4),k4,?_⟩
  cases X with
  |map es clock=>
   obtain ⟨e0,ents,e1,e2,e3⟩:=k5
   refine ⟨e0,ents,e1,e2,fun j s k c hj=>?_⟩
   obtain ⟨en,f1,f2,f3,f4,f5⟩:=e3 j s k c hj
   refine ⟨en,f1,f2,f3,f4,fun n kk cs E ec=>(f5 n kk cs E ec).mixJ (cs:=cs) (μ:=μ) (by rw [←ec];exact f4) (by rw [←ec];exact ho.m id es clock e _ (mem_of_get hj)) (fun g' e2 hno=>⟨h2 g' _ e2 hno,h.mine g' _ e2⟩)⟩
  |iter=>exact k5
theorem RelG.subS {σ' : PS} (h:RelG Φ0 W M Φ μ ω σ a w) (hs:Sub M σ σ'):∃Φ' μ' ω',RelG Φ0 W M Φ' μ' ω' σ' a w∧Since Φ ω w Φ' ω' w:=by
 obtain ⟨Φ',μ',ω',k⟩:=hs _ _ _ _ ⟨Φ,μ,ω,h.fresh0 h.gmu h.kmu⟩
 have hsi:=h.since (Later.refl _ _) k
 have hold0:∀b,Old Φ0 W b→b < w.heap.size∧∀p,ω b≠some p:=fun b hb=>⟨Nat.lt_of_lt_of_le hb.1 h.below.size,h.noOld hb⟩
 refine ⟨Φ',μ',ω',k.rebase h.below h.defers (fun b o hb=>?_) h.gmu k.kmu (fun b o u e=>⟨?_,(h.ext b o u e).2⟩) (fun g p e=>?_),hsi⟩
 ·rw [hsi.imm b o (hold0 b hb).1 (hold0 b hb).2];exact h.old b o hb
 ·by_cases hω:∃p,ω b=some p
  ·exact (k.ext b o u ((freshI_own hω).trans e)).1
  ·have:=h.ext b o u e
   rw [hsi.imm b o (Nat.lt_of_lt_of_le this.2 h.below.size) (fun p e=>hω ⟨p,e⟩)]
   exact this.1
 ·rcases hsi.own g p e with ⟨q,hq⟩|hq
  ·exact h.mine g q hq
  ·exact .inl (Nat.le_trans h.below.size hq)
theorem putObj_cell {w:World} {l:Nat} {ob:Obj} (hl:∀o u,w.cell? ⟨l,o,none⟩≠some u) {b o:Nat} {u:Value} (h:w.cell? ⟨b,o,none⟩=some u):(w.putObj l ob).cell? ⟨b,o,none⟩=some u:=by
 have hb:b≠l:=by rintro rfl;exact hl o u h
 simp only [World.cell?] at h ⊢
 rw [World.putObj_heap_other hb];exact h
theorem loop_nocell {w:World} {l:Nat} {r:Loop} (h:w.heap[l]? = some (.loop r)):∀o u,w.cell? ⟨l,o,none⟩≠some u:=by
 intro o u e
 simp only [World.cell?,h] at e
 cases e
theorem RelG.putLoop (h:RelG Φ0 W M Φ μ ω σ a w) {l:Nat} {r:Loop} (hl:w.heap[l]? = some (.loop r)) (hω:∀p,ω l≠some p) (hold:¬Old Φ0 W l) (r' : Obj):RelG Φ0 W M Φ μ ω σ a (w.putObj l r'):=by
 refine h.grow (h.below.trans ⟨rfl,rfl,rfl,by simp,fun k hk=>World.putObj_heap_other (fun e=>hold (e ▸ hk))⟩) (fun b o u e=>putObj_cell (loop_nocell hl) (h.imm b o u e)) (fun _ _ _=>rfl) (fun _ _ _ e=>e) (fun g p e=>⟨World.putObj_heap_other (fun e' => hω p (e' ▸ e)),fun _=>rfl⟩) (by simp)
theorem RelG.putRound (h:RelG Φ0 W M Φ μ ω σ a w) {l:Nat} {r r' : Loop} (hr:Φ0.round=some l) (hl:w.heap[l]? = some (.loop r)):RelG (h.freshE Φ0.mu) (w.putObj l (.loop r')) M Φ μ ω σ a (w.putObj l (.loop r')):=by
 obtain ⟨q1,q2,-⟩:=h.rnd hr
 have h1:=h.fresh0 h.gmu h.kmu
 let Φg:Ent:=⟨freshI Φ0.imm Φ ω,fun g=>(∃p,ω g=some p)∨g=l,Φ0.mu,h.freshGlob,fun g hg=>by
  rcases hg with hg|rfl
  ·exact h.freshMix hg
  ·intro o u e
   have:=h.imm _ _ _ (h.freshSub e)
   exact absurd this (loop_nocell hl o u),Φ0.marks,none⟩
 have h2:RelG Φg w M Φ μ ω σ a w:=h1.rebase (Kept.refl _ _) ⟨h1.defers.1,fun _ e=>by cases e⟩ (fun b o hb=>(freshI_eq fun p e=>hb.2 (.inl ⟨p,e⟩)).symm) h.gmu h.kmu (fun b o u e=>⟨h.freshSub e,RelG.fresh h (h.freshSub e)⟩) (fun g p e=>.inr (.inl ⟨p,e⟩))
 have h3:RelG Φg w M Φ μ ω σ a (w.putObj l (.loop r')):=h2.putLoop hl q2 (fun ho=>ho.2 (.inr rfl)) _
 refine h3.rebase (Kept.refl _ _) ⟨h1.defers.1,fun l' e=>?_⟩ (fun b o hb=>(freshI_eq fun p e=>hb.2 ⟨p,e⟩).symm) h.gmu h.kmu (fun b o u e=>⟨h.freshSub e,by simpa using RelG.fresh h (h.freshSub e)⟩) (fun g p e=>.inr ⟨p,e⟩)
 have e' : Φ0.round=some l':=e
 rw [hr] at e'
 cases e'
 exact ⟨⟨by simpa using q1,fun ⟨p,hp⟩=>q2 p hp⟩,r',World.putObj_heap_same q1⟩
def setps (f:Nat→PV):List Nat→List PV→Nat→PV
 |p :: ps,x :: xs=>setps (upd f p x) ps xs
 |_,_=>f
theorem RelG.puts:∀(ps:List Nat) (xs:List PV) (vs:List Value) (σ:PS) (a:Act),RelG Φ0 W M Φ μ ω σ a w→(∀p∈ps,p < M)→ps.length=xs.length→RepL Φ μ xs vs→(∀x∈xs,x.ownB=false) →
  RelG Φ0 W M Φ μ ω { σ with t:=setps σ.t ps xs } { a with tmps:=(ps.zip vs).foldl (fun t (p,v)=>t.setIfInBounds p v) a.tmps } w
 | [],xs,vs,σ,a,h,_,_,_,_=>by simpa [setps] using h
 |p :: ps,[],vs,σ,a,h,_,hl,_,_=>by cases hl
 |p :: ps,x :: xs,[],σ,a,h,_,_,hr,_=>by have:=hr.1;cases this
 |p :: ps,x :: xs,v :: vs,σ,a,h,hp,hl,hr,ho=>by
  have h1:=h.put (hp p List.mem_cons_self) (hr.2 0 x v rfl rfl) (ho x List.mem_cons_self)
  have:=RelG.puts ps xs vs _ _ h1 (fun q hq=>hp q (List.mem_cons_of_mem _ hq)) (by simpa using hl) ⟨by have:=hr.1;simpa using this,fun j y u h1 h2=>hr.2 (j+1) y u h1 h2⟩ (fun y hy=>ho y (List.mem_cons_of_mem _ hy))
  exact this
end
section
open Go.RowKit
def CJ (Φr:Ent) (W1:World) (M:Nat) (a0:Act) (l:Nat) (σ:PS) (I:Nat→Prop) (K:Imm) (w:World):Prop:=
 ∃Φ μ ω,RelG Φr W1 M Φ μ ω σ a0 w∧(∀g,I g→∀p,ω g≠some p)∧(∀p,ω l≠some p)∧(∀b o u,I b→Φ b o=some u→K b o=some u)∧(∀g,I g→W1.heap.size≤g)
end
section
open Go.RowKit
variable {Φr:Ent} {W1:World} {M:Nat} {a0:Act} {l:Nat} {σ:PS} {I I' : Nat→Prop} {K K' : Imm} {w w' : World} {P:Program}
theorem CJ.step (h:CJ Φr W1 M a0 l σ I K w) (hk:Kept (fun b=>b < w.heap.size∧¬I b) w w') (hI:∀g,I' g→I g∨w.heap.size≤g) (hK:∀b o u,K b o=some u→I b→K' b o=some u) (hc:∀b o u,K' b o=some u→w'.cell? ⟨b,o,none⟩=some u):CJ Φr W1 M a0 l σ I' K' w':=by
 obtain ⟨Φ,μ,ω,hg,h1,h2,h3,h4⟩:=h
 have hg' : RelG Φr W1 M Φ μ ω σ a0 w':=by
  refine hg.grow (hg.below.trans (hk.mono fun b hb=>⟨Nat.lt_of_lt_of_le hb.1 hg.below.size,fun hi=>?_⟩)) (fun b o u e=>?_) (fun _ _ _=>rfl) (fun _ _ _ e=>e) (fun g p e=>⟨hk.block g ⟨hg.lt g p e,fun hi=>h1 g hi p e⟩,fun _=>rfl⟩) hk.size
  ·have:=h4 b hi;have:=hb.1;omega
  ·by_cases hi:I b
   ·exact hc b o u (hK b o u (h3 b o u hi e) hi)
   ·have:=hg.imm b o u e
    simp only [World.cell?] at this ⊢
    rw [hk.block b ⟨RelG.fresh hg e,hi⟩]
    exact this
 refine ⟨Φ,μ,ω,hg',fun g hi p e=>?_,h2,fun b o u hi e=>?_,fun g hi=>?_⟩
 ·rcases hI g hi with h' | h'
  ·exact h1 g h' p e
  ·have:=hg.lt g p e;omega
 ·rcases hI b hi with h' | h'
  ·exact hK b o u (h3 b o u h' e) h'
  ·have:=RelG.fresh hg e;omega
 ·rcases hI g hi with h' | h'
  ·exact h4 g h'
  ·exact Nat.le_trans hg.below.size h'
theorem CJ.putLoop {r:Loop} (h:CJ Φr W1 M a0 l σ I K w) (hl:w.heap[l]? = some (.loop r)) (hold:¬Old Φr W1 l) (r' : Obj):CJ Φr W1 M a0 l σ I K (w.putObj l r'):=by
 obtain ⟨Φ,μ,ω,hg,h1,h2,h3,h4⟩:=h
 exact ⟨Φ,μ,ω,hg.putLoop hl h2 hold r',h1,h2,h3,h4⟩
theorem CJ.sub {σ' : PS} (h:CJ Φr W1 M a0 l σ I K w) (hs:Sub M σ σ') (hl:l < w.heap.size) (hI:∀g,I g→g < w.heap.size):CJ Φr W1 M a0 l σ' I K w:=by
 obtain ⟨Φ,μ,ω,hg,h1,h2,h3,h4⟩:=h
 obtain ⟨Φ',μ',ω',k,hsi⟩:=hg.subS hs
 have hno:∀g,g < w.heap.size→(∀p,ω g≠some p)→∀p,ω' g≠some p:=fun g hlt hn p e=>by
  rcases hsi.own g p e with ⟨q,hq⟩|hq
  ·exact hn q hq
  ·omega
 refine ⟨Φ',μ',ω',k,fun g hi=>hno g (hI g hi) (h1 g hi),hno l hl h2,fun b o u hi e=>?_,h4⟩
 rw [hsi.imm b o (hI b hi) (h1 b hi)] at e
 exact h3 b o u hi e
def roundNorm (M:Nat) (T:Nat→PV) (F' : PS) (Ip:Prop) (σ' : PS):Prop:=Ip∧Sub M { σ' with t:=T } F'∧∀t,LowI (Kn σ') (T t)
def roundOut (M:Nat) (o:Nat) (L:List Nat) (T:Nat→PV) (Q:PS→Prop) (σ' : PS):Prop:=
 (∀t,LowI (Kn σ') (T t))∧∃G σe,Sub M { σ' with t:=T } G∧(∀i,Kn G i→i∈L)∧SubR (fun i=>i+o) (Kn σe) G σe∧Q σe
def RoundP (M:Nat) (o:Nat) (L:List Nat) (T:Nat→PV) (F' : PS) (Ip:Prop) (Q:Exit→PS→Prop):Exit→PS→Prop
 | .normal,σ' => roundNorm M T F' Ip σ'
 | .ret,σ' => roundOut M o L T (Q .ret) σ'
 | .exit i,σ' => roundOut M o L T (Q (.exit i)) σ'
 | .goto i,σ' => roundOut M o L T (Q (.goto i)) σ'
 |_,_=>False
def NormP (K:PS→Prop):Exit→PS→Prop
 | .normal,σ=>K σ
 |_,_=>False
theorem normP {K:PS→Prop} {σ:PS} (h:K σ):NormP K .normal σ:=h
theorem round_sound {r0:Loop} {ps:List Nat} {x:List PV} {vs:List Value} {F F' : PS} {Q:Exit→PS→Prop} {Ip:Prop} {o:Nat} {L:List Nat} {Φe:Imm}
  (hgivm:∀g,g < W1.heap.size→Mine Φr W1 g→g≠l→Mix Φe g) (himmr:Φr.imm=Φe) (hkn:∀i g,Φr.mu i=some g→Kn F i) (hmu:∀i,Kn F i→1000000≤i) (hlW:l < W1.heap.size) (hlold:¬Old Φr W1 l) (hmix:Mix Φe l)
  (hF:OwnsS F) (hps:∀p∈ps,p < M) (hpx:ps.length=x.length) (hx:∀p∈x,Low p∧p.ownB=false) {assign body:Code} (hassign:PW P M assign (NormP fun σ1=>PW P M body (RoundP M o L F.t F' Ip Q) σ1) { F with t:=setps F.t ps x })
  (hJ:CJ Φr W1 M a0 l F I K w) (hl:w.heap[l]? = some (.loop r0)) (hrs:r0.state = .ready) (hI:∀g,I g→W1.heap.size≤g∧g < w.heap.size) (hK:∀b o u,K b o=some u→w.cell? ⟨b,o,none⟩=some u) (hK1:∀b o,b < W1.heap.size→K b o=Φe b o) (hK2:∀b o u,W1.heap.size≤b→K b o=some u→I b) (hrep:RepL K mu0 x vs) :
  assign.wpIn (FW (some l)) 0 P (Exit.then (fun a₁ w₁=>∃w₂,(Instr.beginRound l).run P w₁ = .ok () w₂∧body.wpIn (FW (some l)) 0 P (fun e a' w3=>(w3.heap[l]? = some (.loop { r0 with state:=.busy })∧Kept (fun g=>(I g∨(g < W1.heap.size∧¬Mix Φe g))) w w3∧(∀b o u,K b o=some u→w3.cell? ⟨b,o,none⟩=some u)) ∧
   (match e with
    | .normal=>Ip∧CJ Φr W1 M a0 l F' I K w3
    | .ret=>∃G σe,CJ Φr W1 M a0 l G I K w3∧(∀i,Kn G i→i∈L)∧SubR (fun i=>i+o) (Kn σe) G σe∧Q .ret σe
    | .exit i=>∃G σe,CJ Φr W1 M a0 l G I K w3∧(∀i,Kn G i→i∈L)∧SubR (fun i=>i+o) (Kn σe) G σe∧Q (.exit i) σe
    | .goto i=>∃G σe,CJ Φr W1 M a0 l G I K w3∧(∀i,Kn G i→i∈L)∧SubR (fun i=>i+o) (Kn σe) G σe∧Q (.goto i) σe
    |_=>False)) a₁ w₂) (fun _ _ _=>False))
   { tmps:=(ps.zip vs).foldl (fun t (p,v)=>t.setIfInBounds p v) a0.tmps,defers := [] } w:=by
 obtain ⟨Φp,μp,ωp,hgp,hc1,hc2,hc3,hc4⟩:=hJ
 -- what the iterator knows beside what is known
 let Φu:Imm:=fun b o=>(Φp b o).orElse fun _=>K b o
 have hue:∀b o u,Φu b o=some u→Φp b o=some u∨(Φp b o=none∧K b o=some u):=by
  intro b o u e
  have e' : ((Φp b o).orElse fun _=>K b o)=some u:=e
  cases hh:Φp b o with
  |some v=>rw [hh] at e'; left;simpa using e'
  |none=>rw [hh] at e'; right;exact ⟨rfl,by simpa using e'⟩
 have hup:∀b o u,Φp b o=some u→Φu b o=some u:=by
  intro b o u e
  show ((Φp b o).orElse fun _=>K b o)=some u
  rw [e];rfl
 have huK:∀b o u,K b o=some u→Φu b o=some u:=by
  intro b o u e
  show ((Φp b o).orElse fun _=>K b o)=some u
  cases hh:Φp b o with
  |none=>simpa using e
  |some v=>
   have e1:=hgp.imm b o v hh
   rw [hK b o u e] at e1
   simpa using e1.symm
 have hun:∀b o,¬I b→Φu b o=Φp b o:=by
  intro b o hi
  show ((Φp b o).orElse fun _=>K b o)=Φp b o
  cases hh:Φp b o with
  |some v=>rfl
  |none=>
   show K b o=none
   cases hk:K b o with
   |none=>rfl
   |some u=>
    rcases Nat.lt_or_ge b W1.heap.size with h' | h'
    ·rw [hK1 b o h',←himmr] at hk
     rw [(hgp.ext b o u hk).1] at hh;cases hh
    ·exact absurd (hK2 b o u h' hk) hi
 have hnI:∀b,Old Φr W1 b→¬I b:=fun b hb hi=>by have:=(hI b hi).1;have:=hb.1;omega
 have hg1:RelG Φr W1 M Φu μp ωp F a0 w:=hgp.grow hgp.below (fun b o u e=>(hue b o u e).elim (hgp.imm b o u) (fun h=>hK b o u h.2)) (fun b o hb=>hun b o (hnI b hb)) hup (fun g p e=>⟨rfl,fun j=>hun g j (fun hi=>hc1 g hi p e)⟩) (Nat.le_refl _)
 obtain ⟨ωm,hg2,hωm⟩:=hg1.mixed hF
 have hml:∀p,ωm l≠some p:=fun p e=>hc2 p (hωm l p e).1
 have hlw:l < w.heap.size:=Nat.lt_of_lt_of_le hlW hgp.below.size
 have hkn' : ∀i g,μp i=some g→Kn F i:=by
  intro i g e
  by_cases hk:Kn F i
  ·exact hk
  ·have:=PS.freeB_iff.1 (by simpa [Kn] using hk:F.freeB i=true)
   rw [hgp.gone i this.1 this.2] at e;cases e
 let Φk:Ent:=⟨Φu,fun g=>∃p,ωm g=some p,μp,hg2.glob,fun g ⟨p,e⟩=>(hωm g p e).2,[],some l⟩
 have hg3:=hg2.rebaseA (a':={ tmps:=a0.tmps,defers := [] }) (Φ1:=Φk) (W1:=w) rfl (Kept.refl _ _) ⟨rfl,fun l' e=>by cases e;exact ⟨⟨hlw,fun ⟨p,e⟩=>hml p e⟩,r0,hl⟩⟩ (fun b o hb=>rfl) (fun i g e=>hmu i (hkn' i g e)) (fun i g e _=>e) (fun b o u e=>⟨e,RelG.fresh hg2 e⟩) (fun g p e=>.inr ⟨p,e⟩)
 have hrep' : RepL Φu μp x vs:=⟨hrep.1,fun j p u h1 h2=>((hrep.2 j p u h1 h2).low (hx p (mem_of_get h1)).1).mono huK (fun _ _ e=>e)⟩
 have hg4:=RelG.puts ps x vs F _ hg3 hps hpx hrep' (fun p hp=>(hx p hp).2)
 refine wpIn_mono (hassign Φk w _ w ⟨_,_,_,hg4⟩) ?_
 rintro e a1 w1 ⟨σ1,Φ2,W2,hq,hl2,Φ',μ',ω',k1⟩
 cases e with
 |normal=>?_
 |_=>exact hq.elim
 have hs1:Kept (fun b=>b < w.heap.size∧∀p,ωm b≠some p) w w1:=(hl2.kept.trans (k1.below.mono hl2.old)).mono fun b hb=>⟨hb.1,fun ⟨p,e⟩=>hb.2 p e⟩
 have hl1:w1.heap[l]? = some (.loop r0):=(hs1.block l ⟨hlw,hml⟩).trans hl
 have hr2:Φ2.round=some l:=hl2.round
 refine ⟨_,run_beginRound hl1 hrs,?_⟩
 have k2:=k1.putRound (r':={ r0 with state:=.busy }) hr2 hl1
 have hω'l:∀p,ω' l≠some p:=(k1.rnd hr2).2.1
 have hbw:=hq _ _ _ _ ⟨_,_,_,k2⟩
 rw [show (k1.freshE Φ2.mu).round=some l from hr2] at hbw
 refine wpIn_mono hbw ?_
 rintro e a3 w3 ⟨σ',Φ3,W3,hq',hl3,Φ'',μ'',ω'',k3⟩
 have hsz1:w.heap.size≤w1.heap.size:=hs1.size
 have hω' : ∀g p,ω' g=some p→(∃q,ωm g=some q)∨w.heap.size≤g:=fun g p e=>(hl2.mine g (k1.mine g p e)).symm
 have hω'' : ∀g p,ω'' g=some p→(∃q,ωm g=some q)∨w.heap.size≤g:=by
  intro g p e
  rcases hl3.mine g (k3.mine g p e) with h' | ⟨q,h'⟩
  ·right
   have:w1.heap.size≤g:=by simpa using h'
   omega
  ·exact hω' g q h'
 have hs3:Kept (fun b=>b < w1.heap.size∧∀p,ω' b≠some p) (w1.putObj l (.loop { r0 with state:=.busy })) w3:=(hl3.kept.trans (k3.below.mono hl3.old)).mono fun b hb=>⟨by simpa using hb.1,fun ⟨p,e⟩=>hb.2 p e⟩
 have hb' : ∀b,b < w.heap.size→(∀p,ωm b≠some p)→∀p,ω' b≠some p:=fun b h1 h2 p e=>by
  rcases hω' b p e with ⟨q,hq⟩|hq
  ·exact h2 q hq
  ·omega
 have hs:Kept (fun b=>b < w.heap.size∧(∀p,ωm b≠some p)∧b≠l) w w3:=by
  refine ⟨hs3.os.trans hs1.os,hs3.tape.trans hs1.tape,hs3.output.trans hs1.output,Nat.le_trans hsz1 (by simpa using hs3.size),fun b hb=>?_⟩
  rw [hs3.block b ⟨Nat.lt_of_lt_of_le hb.1 hsz1,hb' b hb.1 hb.2.1⟩,World.putObj_heap_other hb.2.2]
  exact hs1.block b ⟨hb.1,hb.2.1⟩
 have hl3' : w3.heap[l]? = some (.loop { r0 with state:=.busy }):=by
  rw [hs3.block l ⟨Nat.lt_of_lt_of_le hlw hsz1,hω'l⟩]
  exact World.putObj_heap_same (Nat.lt_of_lt_of_le hlw hsz1)
 have hmu3:Φ3.mu=μp:=hl3.mu.trans hl2.mu
 have hsub:∀b o u,Φu b o=some u→Φ'' b o=some u:=by
  intro b o u e
  have e2:Φ2.imm b o=some u:=by rw [hl2.imm];exact e
  refine (k3.ext b o u ?_).1
  rw [hl3.imm]
  show freshI Φ2.imm Φ' ω' b o=some u
  by_cases hh:∃p,ω' b=some p
  ·rw [freshI_own hh];exact e2
  ·rw [freshI_eq fun p e=>hh ⟨p,e⟩];exact (k1.ext b o u e2).1
 have hold:∀b o,b < w.heap.size→(∀p,ωm b≠some p)→Φ'' b o=Φu b o:=by
  intro b o h1 h2
  have h3:=hb' b h1 h2
  have e1:Φ' b o=Φu b o:=by
   rw [k1.old b o (hl2.old b ⟨h1,fun ⟨p,e⟩=>h2 p e⟩),hl2.imm]
  have hlt:b < w1.heap.size:=Nat.lt_of_lt_of_le h1 hsz1
  rw [k3.old b o (hl3.old b ⟨by simpa using hlt,fun ⟨p,e⟩=>h3 p e⟩),hl3.imm]
  show freshI Φ2.imm Φ' ω' b o=_
  rw [freshI_eq h3,e1]
 have hWr:∀b,Old Φr W1 b→b < w.heap.size∧(∀p,ωm b≠some p)∧b≠l:=fun b hb=>
  ⟨Nat.lt_of_lt_of_le hb.1 hgp.below.size,fun p e=>hgp.noOld hb p (hωm b p e).1,fun e=>hlold (e ▸ hb)⟩
 have hcJ:(∀t,LowI (Kn σ') (F.t t))→CJ Φr W1 M a0 l { σ' with t:=F.t } I K w3:=by
  intro hlow
  have hgT:RelG Φr W1 M Φ'' μ'' ω'' { σ' with t:=F.t } a0 w3:=by
   refine ⟨hgp.below.trans (hs.mono hWr),hgp.defers,hgp.size,k3.imm,fun b o hb=>?_,fun t=>?_,fun t n k cs E e=>?_,fun id bs e=>?_,k3.gone,k3.lt,hgp.gmu,fun i g e hi=>?_,fun b o u e=>?_,fun id X e=>?_,fun g p e=>?_⟩
   ·obtain ⟨q1,q2,-⟩:=hWr b hb
    rw [hold b o q1 q2,hun b o (hnI b hb)]
    exact hgp.old b o hb
   ·refine ((hgp.tmps t).mono hup (fun _ _ e=>e)).lowI (hlow t) (fun i hi g e=>?_) |>.mono hsub (fun _ _ e=>e)
    exact k3.kmu i g (by rw [hmu3];exact e) hi.spec
   ·have h':=hF.t t
    have e' : F.t t = .sl n k cs (some E):=e
    rw [e'] at h'
    simp [PV.ownB] at h'
   ·exact (k3.box id bs e).inB (fun g q _ e=>by
     rcases hω'' g q e with ⟨q',hq'⟩|hq'
     ·exact hgp.mine g q' (hωm g q' hq').1
     ·exact .inl (Nat.le_trans hgp.below.size hq'))
   ·have hkF:=hkn i g e
    exact k3.kmu i g (by rw [hmu3];exact hgp.kmu i g e hkF.spec) hi
   ·have h':=hgp.ext b o u e
    exact ⟨hsub b o u (hup b o u h'.1),h'.2⟩
   ·exact (k3.map id X e).inB (fun g q _ e=>by
     rcases hω'' g q e with ⟨q',hq'⟩|hq'
     ·exact hgp.mine g q' (hωm g q' hq').1
     ·exact .inl (Nat.le_trans hgp.below.size hq'))
   ·rcases hω'' g p e with ⟨q',hq'⟩|hq'
    ·exact hgp.mine g q' (hωm g q' hq').1
    ·exact .inl (Nat.le_trans hgp.below.size hq')
  have hnω:∀g,g < w.heap.size→(∀p,ωp g≠some p)→∀p,ω'' g≠some p:=fun g h1 h2 p e=>by
   rcases hω'' g p e with ⟨q,hq⟩|hq
   ·exact h2 q (hωm g q hq).1
   ·omega
  refine ⟨Φ'',μ'',ω'',hgT,fun g hi=>hnω g (hI g hi).2 (hc1 g hi),hnω l hlw hc2,fun b o u hi e=>?_,fun g hi=>(hI g hi).1⟩
  rw [hold b o (hI b hi).2 (fun p e=>hc1 b hi p (hωm b p e).1)] at e
  rcases hue b o u e with h' | h'
  ·exact hc3 b o u hi h'
  ·exact h'.2
 have hlw3:l < w3.heap.size:=Nat.lt_of_lt_of_le hlw hs.size
 have hIw3:∀g,I g→g < w3.heap.size:=fun g hi=>Nat.lt_of_lt_of_le (hI g hi).2 hs.size
 refine ⟨⟨hl3',hs.mono fun g hg=>?_,fun b o u e=>k3.imm b o u (hsub b o u (huK b o u e))⟩,?_⟩
 ·rcases hg with hi|⟨h1,h2⟩
  ·exact ⟨(hI g hi).2,fun p e=>hc1 g hi p (hωm g p e).1,fun e=>by have:=(hI g hi).1;omega⟩
  ·have hgl:g≠l:=by rintro rfl;exact h2 hmix
   exact ⟨Nat.lt_of_lt_of_le h1 hgp.below.size,fun p e=>h2 (hgivm g h1 (hgp.mine g p (hωm g p e).1) hgl),hgl⟩
 ·have hout:∀Q0:PS→Prop,roundOut M o L F.t Q0 σ'→∃G σe,CJ Φr W1 M a0 l G I K w3∧(∀i,Kn G i→i∈L)∧SubR (fun i=>i+o) (Kn σe) G σe∧Q0 σe:=by
   rintro Q0 ⟨h1,G,σe,h2,h3,h4,h5⟩
   exact ⟨G,σe,(hcJ h1).sub h2 hlw3 hIw3,h3,h4,h5⟩
  cases e with
  |normal=>exact ⟨hq'.1,(hcJ hq'.2.2).sub hq'.2.1 hlw3 hIw3⟩
  |ret=>exact hout _ hq'
  |exit i=>exact hout _ hq'
  |goto i=>exact hout _ hq'
  |panic ch=>exact hq'.elim
  |outgrown=>exact hq'.elim
end
section
open Go.RowKit
variable {M:Nat} {Q:Exit→PS→Prop} {σ:PS} {P:Program}
theorem enter_run {Φ0:Ent} {W:World} {Φ:Imm} {μ:Nat→Option Nat} {ω:Nat→Option Who} {a:Act} {w:World} (h:RelG Φ0 W M Φ μ ω σ a w) (fn:FuncId) (ps:Array Tmp) (assign body:Code) :
  ∃(l:Nat) (ms:List Nat) (df:Nat) (W1:World),(Instr.enterLoop fn a.tmps ps assign body (FW Φ0.round).round).run P w = .ok (l,ms.map collD) W1∧W1.heap[l]? = some (.loop { state:=.ready,pending:=none,fn,tmps:=a.tmps,params:=ps,assign,body,defers:=df })∧w.heap.size≤l∧Kept (fun b=>b < w.heap.size) w W1∧ms.Nodup ∧
   ∀m∈ms,w.heap.size≤m∧m < W1.heap.size∧m≠l∧W1.heap[m]? = some (.deferred (some [])):=by
 show ∃(l:Nat) (ms:List Nat) (df:Nat) (W1:World),(Instr.enterLoop fn a.tmps ps assign body Φ0.round).run P w=_∧_
 cases hro:Φ0.round with
 |none=>
  refine ⟨w.heap.size+1,[w.heap.size],w.heap.size,_,run_enterLoop_outer _ _ _ _ _,?_,by omega,⟨rfl,rfl,rfl,by simp;omega,fun k hk=>?_⟩,by simp,fun m hm=>?_⟩
  ·have:=World.alloc_heap_new (w.alloc (.deferred (some []))) (.loop { state:=.ready,pending:=none,fn,tmps:=a.tmps,params:=ps,assign,body,defers:=w.heap.size })
   rwa [World.size_alloc] at this
  ·rw [Below.heap_alloc _ _ _ (by simp;omega),Below.heap_alloc _ _ _ hk]
  ·have:m=w.heap.size:=by simpa using hm
   subst this
   refine ⟨Nat.le_refl _,by simp;omega,by omega,?_⟩
   exact (Below.heap_alloc _ _ _ (by simp)).trans (World.alloc_heap_new w _)
 |some l0=>
  obtain ⟨q1,q2,r,q3⟩:=h.rnd hro
  refine ⟨w.heap.size,[],r.defers,w.alloc (.loop { state:=.ready,pending:=none,fn,tmps:=a.tmps,params:=ps,assign,body,defers:=r.defers }),?_,World.alloc_heap_new w _,Nat.le_refl _,⟨rfl,rfl,rfl,by simp,fun k hk=>Below.heap_alloc _ _ _ hk⟩,by simp,fun m hm=>by cases hm⟩
  unfold Instr.enterLoop
  simp only [Sem.run_bind,run_getLoop q3,Result.andThen,Sem.run_pure,run_newObj_alloc]
  rfl
def putps (σ:PS):List Nat→List PV→PS
 |p :: ps,x :: xs=>putps (σ.put p x) ps xs
 |_,_=>σ
theorem putps_eq:∀(ps:List Nat) (xs:List PV) (σ:PS),{ σ with t:=setps σ.t ps xs } = putps σ ps xs
 | [],_,_=>rfl
 |_ :: _,[],_=>rfl
 |p :: ps,x :: xs,σ=>putps_eq ps xs (σ.put p x)
theorem lowT_bot {S:Nat→Prop} : ∀t,LowI S (bot.t t):=fun _=>.undef
theorem lowT_put {S:Nat→Prop} {σ:PS} {d:Nat} {p:PV} (h:∀t,LowI S (σ.t t)) (hp:LowI S p):∀t,LowI S ((σ.put d p).t t):=by
 intro t
 simp only [PS.put,upd_if]
 split
 ·exact hp
 ·exact h t
theorem lowT_setb {S:Nat→Prop} {σ:PS} {d:Nat} {bs:List PV} (h:∀t,LowI S (σ.t t)):∀t,LowI S ((σ.setb d bs).t t):=h
theorem lowT_setm {S:Nat→Prop} {σ:PS} {d:Nat} {X:PMap} (h:∀t,LowI S (σ.t t)):∀t,LowI S ((σ.setm d X).t t):=h
theorem roundP {o:Nat} {L:List Nat} {T:Nat→PV} {F' : PS} {Ip:Prop} (h1:Ip) (h2:Sub M { σ with t:=T } F') (h3:∀t,LowI (Kn σ) (T t)):RoundP M o L T F' Ip Q .normal σ:=⟨h1,h2,h3⟩
theorem roundP_ret {o:Nat} {L:List Nat} {T:Nat→PV} {F' : PS} {Ip:Prop} (G σe:PS) (h1:∀t,LowI (Kn σ) (T t)) (h2:Sub M { σ with t:=T } G) (h3:∀i,Kn G i→i∈L) (h4:SubR (fun i=>i+o) (Kn σe) G σe) (h5:Q .ret σe):RoundP M o L T F' Ip Q .ret σ:=⟨h1,G,σe,h2,h3,h4,h5⟩
open Classical in
theorem PW.rangeFunc {g:Operand} {ps:Array Tmp} {assign body:Code} {f:FuncId} {caps:List PV} {A S:List (List PV)→Prop} (o:Nat) (L:List Nat) (F:List (List PV)→PS) (I0:List (List PV)→Prop) (hI0:I0 [])
  (hg:pev σ g = .fn f caps) (hf:Nat.blt f 1000000=true) (hlow:∀p∈caps,Low p) (hit:ItSpec P f caps A S) (hin:SubR (fun i=>i - o) (Kn (F [])) σ (F []))
  (hk1:∀pre i,Kn (F pre) i→i∈L) (hk2:∀pre,∀i∈L,Kn (F pre) i) (hL:L.all (fun i=>Nat.ble o i)=true) (ho:1000000≤o) (hF:∀pre,OwnsS (F pre)) (hps:∀p∈ps.toList,p < M)
  (hx:∀pre x,A (pre ++ [x])→ps.toList.length=x.length∧∀p∈x,Low p∧p.ownB=false)
  (round:∀pre x,I0 pre→A (pre ++ [x])→PW P M assign (NormP fun σ1=>PW P M body (RoundP M o L (F pre).t (F (pre ++ [x])) (I0 (pre ++ [x])) Q) σ1) (putps (F pre) ps.toList x))
  (done:∀xs,S xs→I0 xs→∃σe,SubR (fun i=>i+o) (Kn σe) (F xs) σe∧Q .normal σe):PW P M (.rangeFunc g ps assign body) Q σ:=by
 intro Φ0 W a w ⟨Φ,μ,ω,hg0⟩
 refine wpIn_rangeFunc ?_
 intro fn hfn
 obtain ⟨l,ms,df,W1,hent,hl1,hlw,hkW,hnd,hms⟩:=enter_run (P:=P) hg0 fn ps assign body
 obtain ⟨rec,hrec⟩:∃rec:LoopState→Option Code→Loop,rec=fun st pe=>{ state:=st,pending:=pe,fn,tmps:=a.tmps,params:=ps,assign,body,defers:=df }:=⟨_,rfl⟩
 have hl1' : W1.heap[l]? = some (.loop (rec .ready none)):=by rw [hrec];exact hl1
 have hlW:l < W1.heap.size:=(Array.getElem?_eq_some_iff.1 hl1).1
 -- the iterator's value
 have hev:=hg0.ev g
 rw [hg] at hev
 have hlt:f < 1000000:=by simpa [Nat.blt_eq] using hf
 obtain ⟨us,hgv,hus⟩:∃us:List Value,a.eval g = .func (.func f) #[] us.toArray∧RepL Φ mu0 caps us:=by
  obtain ⟨us,e1,e2⟩:=hev.fn_inv
  refine ⟨us,?_,⟨e2.1,fun j p u h1 h2=>(e2.2 j p u h1 h2).low (hlow p (mem_of_get h1))⟩⟩
  rw [e1]
  unfold fnV
  rw [if_pos hlt]
 -- the caller's memory,under high numbers
 have hnum:∀i,Kn (F []) i→o≤i:=fun i hi=>Nat.le_of_ble_eq_true (List.all_eq_true.1 hL i (hk1 [] i hi))
 have hA:=hg0.fresh0 (mu:=fun _=>none) (fun _ _ e=>by cases e) (fun _ _ e=>by cases e)
 have hB:=hin.rel (fun i hi=>hi.spec) (fun i j hi hj e=>by have:=hnum i hi;have:=hnum j hj;have e' : i - o=j - o:=e;omega) (fun i hi g e=>by cases e) hA
 generalize hμ1:(fun i=>if Kn (F []) i then μ (i - o) else none)=μ1 at hB
 generalize hω1:(fun g=>unren (fun i=>i - o) (Kn (F [])) (ω g))=ω1 at hB
 obtain ⟨ω2,hC,hω2⟩:=hB.mixed (hF [])
 have hω:∀g p,ω2 g=some p→(∃q,ω g=some q)∧Mix Φ g∧g < w.heap.size:=by
  intro g p e
  have hlt':=hC.lt g p e
  rcases hC.mine g p e with h' | h'
  ·omega
  ·exact ⟨h',(hω2 g p e).2,hlt'⟩
 have hD:RelG (hg0.freshE fun _=>none) w M Φ μ1 ω2 (F []) a W1:=by
  refine hC.grow (hC.below.trans (hkW.mono fun b hb=>hb.1)) (fun b o u e=>?_) (fun _ _ _=>rfl) (fun _ _ _ e=>e) (fun g p e=>⟨hkW.block g (hω g p e).2.2,fun _=>rfl⟩) hkW.size
  have:=hg0.imm b o u e
  simp only [World.cell?] at this ⊢
  rw [hkW.block b (RelG.fresh hg0 e)];exact this
 have hω2l:∀p,ω2 l≠some p:=fun p e=>by have:=(hω l p e).2.2;omega
 have hΦl:∀j,Φ l j=none:=fun j=>by
  cases hh:Φ l j with
  |none=>rfl
  |some u=>have:=RelG.fresh hg0 hh;omega
 have hmixl:Mix Φ l:=fun o u e=>by rw [hΦl] at e;cases e
 let Φr:Ent:=⟨Φ,fun g=>(∃p,ω2 g=some p)∨g=l,μ1,hg0.glob,fun g hg' => hg'.elim (fun ⟨p,e⟩=>(hω g p e).2.1) (fun e=>e ▸ hmixl),ms ++ Φ0.marks,Φ0.round⟩
 let a0:Act:={ a with defers:=ms.map collD ++ a.defers }
 have hμk:∀i g,μ1 i=some g→Kn (F []) i∧μ (i - o)=some g:=by
  intro i g e
  rw [←hμ1] at e
  have e' : (if Kn (F []) i then μ (i - o) else none)=some g:=e
  split at e'
  ·rename_i hk;exact ⟨hk,e'⟩
  ·cases e'
 have hR:RelG Φr W1 M Φ μ1 ω2 (F []) a0 W1:=by
  refine hD.rebaseA rfl (Kept.refl _ _) ⟨?_,fun l0 e=>?_⟩ (fun b o hb=>rfl) (fun i g e=>Nat.le_trans ho (hnum i (hμk i g e).1)) (fun i g e _=>e) (fun b o u e=>⟨e,Nat.lt_of_lt_of_le (RelG.fresh hg0 e) hkW.size⟩) (fun g p e=>.inr (.inl ⟨p,e⟩))
  ·show ms.map collD ++ a.defers=(ms ++ Φ0.marks).map collD
   rw [hg0.defers.1,List.map_append]
  ·obtain ⟨q1,q2,r,q3⟩:=hg0.rnd e
   refine ⟨⟨Nat.lt_of_lt_of_le q1 hkW.size,fun hh=>?_⟩,r,(hkW.block l0 q1).trans q3⟩
   rcases hh with ⟨p,hp⟩|rfl
   ·obtain ⟨⟨q,hq⟩,-⟩:=hω l0 p hp;exact q2 q hq
   ·omega
 have hlold:¬Old Φr W1 l:=fun hh=>hh.2 (.inr rfl)
 -- what is known of the caller's memory
 let Out:Code→PS→PS→Prop:=fun c G σe=>(∀i,Kn G i→i∈L)∧SubR (fun i=>i+o) (Kn σe) G σe∧(match c with | .ret=>Q .ret σe | .exit i=>Q (.exit i) σe | .goto i=>Q (.goto i) σe|_=>False)
 let J:Come→(Nat→Prop)→Imm→World→Prop:=fun κ I K w' => l < w'.heap.size∧match κ with
  |some pre=>I0 pre∧w'.heap[l]? = some (.loop (rec .ready none))∧CJ Φr W1 M a0 l (F pre) I K w'
  |none=>∃c G σe,Out c G σe∧w'.heap[l]? = some (.loop (rec .done (some c)))∧CJ Φr W1 M a0 l G I K w'
 let E:ItEnv:=⟨J,fun {κ I I' K K' w1 w2} hJ hk hI hK hc=>by
  obtain ⟨hlt',hJ⟩:=hJ
  have hnl:∀{G:PS},CJ Φr W1 M a0 l G I K w1→w2.heap[l]? = w1.heap[l]?:=fun hcj=>hk.block l ⟨hlt',fun hi=>by obtain ⟨_,_,_,_,_,_,_,h4⟩:=hcj;have:=h4 l hi;omega⟩
  refine ⟨Nat.lt_of_lt_of_le hlt' hk.size,?_⟩
  cases κ with
  |some pre=>exact ⟨hJ.1,(hnl hJ.2.2).trans hJ.2.1,hJ.2.2.step hk hI hK hc⟩
  |none=>
   obtain ⟨c,G,σe,h1,h2,h3⟩:=hJ
   exact ⟨c,G,σe,h1,(hnl h3).trans h2,h3.step hk hI hK hc⟩⟩
 have hJ0:E.J (some []) (fun _=>False) Φ W1:=⟨hlW,hI0,hl1',Φ,μ1,ω2,hR,fun g h=>h.elim,hω2l,fun b o u h=>h.elim,fun g h=>h.elim⟩
 have hY:YOK P E l A Φ W1.heap.size:=by
  intro pre x I K w1 vs hAx hJ hI hK hK1 hK2 hKg hrep
  obtain ⟨hlt',hip,hlr,hcj⟩:=hJ
  obtain ⟨hxl,hxx⟩:=hx pre x hAx
  have hy:=run_yield (P:=P) (args:=vs.toArray) hlr (by rw [hrec];have:=hrep.1;simp at hxl ⊢; omega)
  rw [hrec] at hy
  refine ⟨fn,_,assign,body,hy,?_⟩
  have hrs:=round_sound (Φe:=Φ) (r0:=rec .ready none) (Q:=Q) (o:=o) (L:=L) (F:=F pre) (F':=F (pre ++ [x])) (ps:=ps.toList) (x:=x) (fun g h1 h2 h3=>by
    rcases h2 with h2|h2
    ·omega
    ·exact Φr.fl g h2) rfl (fun i g e=>hk2 pre i (hk1 [] i (hμk i g e).1)) (fun i hi=>Nat.le_trans ho (Nat.le_of_ble_eq_true (List.all_eq_true.1 hL i (hk1 pre i hi)))) hlW hlold hmixl (hF pre) hps hxl hxx (by rw [putps_eq];exact round pre x hip hAx) hcj hlr (by rw [hrec]) hI hK hK1 hK2 hrep
  have htm:(ps.zip vs.toArray).foldl (fun tmps (t,a)=>tmps.setIfInBounds t a) a.tmps=(ps.toList.zip vs).foldl (fun t (p,v)=>t.setIfInBounds p v) a0.tmps:=by
   rw [←Array.foldl_toList,Array.toList_zip]
  refine roundIn_of_wpIn trivial ?_
  simp only
  rw [htm]
  refine wpIn_mono hrs ?_
  rintro e a1 w2 hq
  cases e with
  |normal=>?_
  |_=>exact hq
  obtain ⟨w3,hbr,hbody⟩:=hq
  refine ⟨w3,hbr,wpIn_mono hbody ?_⟩
  rintro e a3 w4 ⟨⟨hl4,hk4,hK4⟩,hq⟩
  have hl4' : l < w4.heap.size:=(Array.getElem?_eq_some_iff.1 hl4).1
  have hnl:∀g,(I g∨(g < W1.heap.size∧¬Mix Φ g))→g≠l:=by
   rintro g (hi|⟨-,h2⟩) rfl
   ·have:=(hI g hi).1;omega
   ·exact h2 hmixl
  have fin:∀(jump:Option Code),(J (if jump.isNone then some (pre ++ [x]) else none) I K (w4.putObj l (.loop (rec (if jump.isNone then .ready else .done) jump))))→∃v w',(Instr.endRound l jump).run P w4 = .ok v w'∧(fun e w2=>∃b:Bool,e=Ending.returned (.bool b)∧E.J (if b then some (pre ++ [x]) else none) I K w2∧Kept (fun g=>I g∨(g < W1.heap.size∧¬Mix Φ g)) w1 w2∧(∀b o u,K b o=some u→w2.cell? ⟨b,o,none⟩=some u)) (.returned v) w':=by
   intro jump hJ'
   have:=run_endRound (P:=P) jump hl4
   rw [hrec] at this hJ'
   refine ⟨_,_,this,jump.isNone,rfl,hJ',hk4.trans ⟨rfl,rfl,rfl,by simp,fun k hk=>World.putObj_heap_other (hnl k hk)⟩,fun b o u e=>putObj_cell (loop_nocell hl4) (hK4 b o u e)⟩
  have same:∀r',(w4.putObj l (.loop r')).heap[l]? = some (.loop r'):=fun r' => World.putObj_heap_same hl4'
  cases e with
  |normal=>exact fin none ⟨by simpa using hl4',hq.1,same _,CJ.putLoop hq.2 hl4 hlold _⟩
  |ret=>
   obtain ⟨G,σe,h1,h2,h3,h4⟩:=hq
   exact fin (some .ret) ⟨by simpa using hl4', .ret,G,σe,⟨h2,h3,h4⟩,same _,CJ.putLoop h1 hl4 hlold _⟩
  |exit i=>
   obtain ⟨G,σe,h1,h2,h3,h4⟩:=hq
   exact fin (some (.exit i)) ⟨by simpa using hl4', .exit i,G,σe,⟨h2,h3,h4⟩,same _,CJ.putLoop h1 hl4 hlold _⟩
  |goto i=>
   obtain ⟨G,σe,h1,h2,h3,h4⟩:=hq
   exact fin (some (.goto i)) ⟨by simpa using hl4', .goto i,G,σe,⟨h2,h3,h4⟩,same _,CJ.putLoop h1 hl4 hlold _⟩
  |panic ch=>exact hq.elim
  |outgrown=>exact hq.elim
 -- the call of the iterator
 refine ⟨l,ms.map collD,W1,{ target:=.fn (.func f) us.toArray,args := #[.func (.yield l) #[] #[]] },W1,f,#[.func (.yield l) #[] #[]] ++ us.toArray,W1,hent,?_,fun f' _=>trivial,?_,(fun e=>by cases e),?_⟩
 ·simp only [resolve,hgv]
  simp [go_sem]
 ·simp [invoke,go_sem,run_callFunc hit.1]
 refine (Calls.inW (hit.2 E l Φ W1 us hR.imm hg0.glob hus hY hJ0)).mono ?_
 rintro e w2 ⟨v,κ,K,rfl,hS,hlt2,hJ2⟩
 -- behind the loop
 have back:∀(G σe:PS) (r' : Loop),(∀i,Kn G i→i∈L)→SubR (fun i=>i+o) (Kn σe) G σe→(∃r,w2.heap[l]? = some (.loop r))→CJ Φr W1 M a0 l G (fun _=>False) K w2→∃Φe We,Later Φ0 W Φe We∧Rel Φe We M σe a0 (w2.putObj l (.loop r')):=by
  rintro G σe r' hGL hsub ⟨r,hlr⟩ hcj
  obtain ⟨Φ3,μ3,ω3,h3,-,h3l,-,-⟩:=hcj.putLoop hlr hlold (.loop r')
  have h4:=hsub.rel (fun i hi=>hi.spec) (fun i j hi hj e=>by have e' : i+o=j+o:=e;omega) (fun i hi g e=>by cases e) (h3.fresh0 (mu:=fun _=>none) (fun _ _ e=>by cases e) (fun _ _ e=>by cases e))
  have hext:∀b o u,Φ0.imm b o=some u→Φ b o=some u∧b < W.heap.size:=hg0.ext
  have hWw:=hg0.below.size
  have hwW:=hkW.size
  have hold0:∀b,Old Φ0 W b→b < w.heap.size∧Old Φr W1 b:=by
   intro b hb
   have h1:b < w.heap.size:=Nat.lt_of_lt_of_le hb.1 hWw
   refine ⟨h1,Nat.lt_of_lt_of_le h1 hwW,fun hh=>?_⟩
   rcases hh with ⟨p,hp⟩|rfl
   ·obtain ⟨⟨q,hq⟩,-⟩:=hω b p hp;exact hg0.noOld hb q hq
   ·omega
  have holdm:∀m∈ms,Old Φr W1 m:=by
   intro m hm
   obtain ⟨q1,q2,q3,q4⟩:=hms m hm
   refine ⟨q2,fun hh=>?_⟩
   rcases hh with ⟨p,hp⟩|rfl
   ·have:=(hω m p hp).2.2;omega
   ·exact q3 rfl
  have hfl:∀g,(Mine Φ0 W g∧g < W1.heap.size∧g∉ms)→Mix Φ0.imm g:=by
   rintro g ⟨h',-⟩
   rcases h' with h' | h'
   ·intro o u e;have:=(hext g o u e).2;omega
   ·exact Φ0.fl g h'
  let Φe:Ent:=⟨Φ0.imm,fun g=>Mine Φ0 W g∧g < W1.heap.size∧g∉ms,Φ0.mu,Φ0.glob,hfl,ms ++ Φ0.marks,Φ0.round⟩
  have holdc:∀b,Old Φe W1 b→Old Φ0 W b∨b∈ms:=by
   rintro b ⟨hb1,hb2⟩
   by_cases hm:b∈ms
   ·exact .inr hm
   ·left
    by_cases hmi:Mine Φ0 W b
    ·exact absurd ⟨hmi,hb1,hm⟩ hb2
    ·exact ⟨Nat.lt_of_not_le fun hh=>hmi (.inl hh),fun hh=>hmi (.inr hh)⟩
  have holde:∀b,Old Φ0 W b→Old Φe W1 b:=fun b hb=>⟨(hold0 b hb).2.1,fun hh=>hh.1.ne hb rfl⟩
  have hkW0:Kept (Old Φ0 W) W W1:=hg0.below.trans (hkW.mono fun b hb=>(hold0 b hb).1)
  have hlat:Later Φ0 W Φe W1:=by
   refine ⟨rfl,rfl,rfl,hkW0,holde,fun g hg' => ?_,fun b hb=>(holdc b hb).imp id (fun h=>List.mem_append.2 (.inl h)),fun _ b o u e=>(hext b o u e).2,ms,rfl,hnd,fun m hm=>?_⟩
   ·rcases hg' with h' | h'
    ·exact .inl (Nat.le_trans hkW0.size h')
    ·exact h'.1
   ·obtain ⟨q1,q2,q3,q4⟩:=hms m hm
    exact ⟨Nat.le_trans hWw q1,⟨q2,fun hh=>hh.2.2 hm⟩,q4⟩
  refine ⟨Φe,W1,hlat,_,_,_,h4.rebase (h3.below.mono fun b hb=>?_) ⟨?_,fun l0 e=>?_⟩ (fun b o hb=>?_) hg0.gmu (fun i g e hi=>?_) (fun b o u e=>?_) (fun g p e=>?_)⟩
  ·rcases holdc b hb with h' | h'
   ·exact (hold0 b h').2
   ·exact holdm b h'
  ·exact h3.defers.1
  ·obtain ⟨q1,q2⟩:=hg0.defers.2 l0 e
   obtain ⟨r0,q2⟩:=q2
   exact ⟨holde l0 q1,r0,(hkW0.block l0 q1).trans q2⟩
  ·rcases holdc b hb with h' | h'
   ·rw [h3.old b o (hold0 b h').2]
    exact hg0.old b o h'
   ·obtain ⟨q1,q2,q3,q4⟩:=hms b h'
    rw [h3.old b o (holdm b h')]
    show Φ b o=Φ0.imm b o
    have e1:Φ b o=none:=by
     cases hh:Φ b o with
     |none=>rfl
     |some u=>have:=RelG.fresh hg0 hh;omega
    have e2:Φ0.imm b o=none:=by
     cases hh:Φ0.imm b o with
     |none=>rfl
     |some u=>have:=(hext b o u hh).2;omega
    rw [e1,e2]
  ·have hSi:Kn σe i∧Kn G (i+o):=by
    rcases hi with hi|hi
    ·obtain ⟨qs,hqs⟩:=Option.ne_none_iff_exists'.1 hi
     obtain ⟨h1,ps',h2,-⟩:=hsub.b i qs hqs
     exact ⟨h1,Kn.ofb h2⟩
    ·obtain ⟨qs,hqs⟩:=Option.ne_none_iff_exists'.1 hi
     obtain ⟨h1,ps',h2,-⟩:=hsub.m i qs hqs
     exact ⟨h1,Kn.ofm h2⟩
   have hkF:Kn (F []) (i+o):=hk2 [] _ (hGL _ hSi.2)
   have hσ:σ.b i≠none∨σ.m i≠none:=by
    rcases hkF.spec with h' | h'
    ·obtain ⟨qs,hqs⟩:=Option.ne_none_iff_exists'.1 h'
     obtain ⟨-,ps',h2,-⟩:=hin.b _ qs hqs
     left;simp only [Nat.add_sub_cancel] at h2;rw [h2];simp
    ·obtain ⟨qs,hqs⟩:=Option.ne_none_iff_exists'.1 h'
     obtain ⟨-,ps',h2,-⟩:=hin.m _ qs hqs
     right;simp only [Nat.add_sub_cancel] at h2;rw [h2];simp
   have h5:μ i=some g:=hg0.kmu i g e hσ
   have h6:μ1 (i+o)=some g:=by
    rw [←hμ1]
    show (if _ then _ else _)=_
    rw [if_pos hkF,Nat.add_sub_cancel];exact h5
   show (if Kn σe i then μ3 (i+o) else none)=some g
   rw [if_pos hSi.1]
   exact h3.kmu (i+o) g h6 hSi.2.spec
  ·have h':=hext b o u e
   exact ⟨(h3.ext b o u h'.1).1,Nat.lt_of_lt_of_le h'.2 (Nat.le_trans hWw hwW)⟩
  ·have h' : ∃q,ω3 g=some q:=by
    have h1:=h4.mine g p e
    have h2:=h4.lt g p e
    rcases h1 with h1|h1
    ·simp at h1 h2;omega
    ·exact h1
   obtain ⟨q,hq⟩:=h'
   have hgl:g≠l:=by rintro rfl;exact h3l q hq
   rcases h3.mine g q hq with h1|h1
   ·exact .inl h1
   ·rcases h1 with ⟨p',hp'⟩|h1
    ·obtain ⟨⟨q',hq'⟩,-,hlt'⟩:=hω g p' hp'
     refine .inr ⟨hg0.mine g q' hq',Nat.lt_of_lt_of_le hlt' hwW,fun hm=>?_⟩
     have:=(hms g hm).1;omega
    ·exact absurd h1 hgl
 cases κ with
 |some xs=>
  obtain ⟨hip,hlr,hcj⟩:=hJ2
  obtain ⟨σe,h1,h2⟩:=done xs (hS xs rfl) hip
  have hend:=run_endLoop (P:=P) hlr (by rw [hrec];simp)
  rw [hrec] at hend
  obtain ⟨Φe,We,h3,h4⟩:=back (F xs) σe { rec .ready none with state:=.exhausted } (fun i hi=>hk1 xs i hi) h1 ⟨_,hlr⟩ hcj
  rw [hrec] at h4
  exact ⟨none,_,hend,σe,Φe,We,h2,h3,h4⟩
 |none=>
  obtain ⟨c,G,σe,⟨h1,h2,h3⟩,hlr,hcj⟩:=hJ2
  have hend:=run_endLoop (P:=P) hlr (by rw [hrec];simp)
  rw [hrec] at hend
  obtain ⟨Φe,We,h4,h5⟩:=back G σe { rec .done (some c) with state:=.exhausted } h1 h2 ⟨_,hlr⟩ hcj
  rw [hrec] at h5
  refine ⟨some c,_,hend,?_⟩
  simp only
  cases c with
  |ret=>exact wpIn_ret ⟨σe,Φe,We,h3,h4,h5⟩
  |exit i=>exact wpIn_exit ⟨σe,Φe,We,h3,h4,h5⟩
  |goto i=>exact wpIn_goto ⟨σe,Φe,We,h3,h4,h5⟩
  |_=>exact h3.elim
end
section
open Go.RowKit
variable {P:Program} {T:Tab} {ops:Array Oper} {base:Nat} {ok:Nat→Nat→Bool} {i:Nat} {o:Oper} {rest:List (Nat×Oper)} {K:PS→Prop} {σ:PS}
theorem PWops.callV {c:Call} {x:Operand} {d:Nat} {f:FuncId} {caps args:List PV} {r:PV} (hf:Nat.blt f 1000000=true) (hp:PCalls P f args (· = r)) (hg:pguard ops σ o=some true) (hd:o.dst=some d) (hop:o.op = .call c) (hcal:c.callee = .value x) (hx:pev σ x = .fn f caps) (hargs:c.args.toList.map (pev σ) ++ caps=args)
  (k:PWops P T ops base ok rest K (σ.put d r)):PWops P T ops base ok ((i,o) :: rest) K σ:=by
 refine PWops.call hg hd ?_ hp k
 unfold pcall
 rw [hop]
 simp only [hcal,hx,hf,cond_true,hargs]
end
section
open Go.RowKit
def idxF {α:Type} (p:α→Bool) (l:List α):Int:=match l.findIdx? p with
 |some i=>i
 |none => -1
theorem idxF_ge {α:Type} (p:α→Bool) (l:List α):decide (0≤idxF p l)=l.any p:=by
 unfold idxF
 cases h:l.findIdx? p with
 |none=>
  have:l.any p=false:=by
   rw [List.findIdx?_eq_none_iff] at h
   rw [List.any_eq_false]
   intro x hx
   simp [h x hx]
  rw [this];rfl
 |some i=>
  have:l.any p=true:=by
   obtain ⟨hi,h1,-⟩:=List.findIdx?_eq_some_iff_getElem.1 h
   rw [List.any_eq_true]
   exact ⟨l[i],List.getElem_mem hi,h1⟩
  rw [this];simp
theorem idxF_here {α:Type} {p:α→Bool} {l:List α} {k:Nat} (d:α) (hk:k < l.length) (hp:p (l.getD k d)=true) (hn:∀j,j < k→p (l.getD j d)=false):idxF p l=k:=by
 have:l.findIdx? p=some k:=by
  rw [List.findIdx?_eq_some_iff_getElem]
  refine ⟨hk,by simpa [List.getD_eq_getElem?_getD,hk] using hp,fun j hj=>?_⟩
  have:=hn j hj
  have hj' : j < l.length:=by omega
  simp [List.getD_eq_getElem?_getD,hj'] at this
  simp [this]
 unfold idxF
 rw [this]
theorem idxF_none {α:Type} {p:α→Bool} {l:List α} (d:α) (hn:∀j,j < l.length→p (l.getD j d)=false):idxF p l = -1:=by
 have:l.findIdx? p=none:=by
  rw [List.findIdx?_eq_none_iff]
  intro x hx
  obtain ⟨j,hj,rfl⟩:=List.getElem_of_mem hx
  have:=hn j hj
  simpa [List.getD_eq_getElem?_getD,hj] using this
 unfold idxF
 rw [this]
instance:Inhabited PEntry:=⟨⟨0,0,0,0,0,0,0,[],[]⟩⟩
instance:Inhabited PDef:=⟨⟨ByteArray.empty,0,0,0,[]⟩⟩
instance:Inhabited PAttr:=⟨⟨ByteArray.empty,0,0,ByteArray.empty⟩⟩
def pvecs (l:List (List Int)):PV:=.sl l.length 1 (l.map pints) none
theorem low_pvecs (l:List (List Int)):Low (pvecs l)↔True:=by
 simp only [pvecs,low_sl,iff_true]
 intro c hc
 obtain ⟨z,-,rfl⟩:=List.mem_map.1 hc
 exact (low_pints z).2 trivial
def pentries (l:List PEntry):PV:=.sl l.length 9 (l.flatMap entCellsP) none
theorem low_pentries (l:List PEntry):Low (pentries l)↔True:=by
 simp only [pentries,low_sl,iff_true]
 intro c hc
 obtain ⟨z,-,hz⟩:=List.mem_flatMap.1 hc
 exact low_entCells z c hz
structure PTruth where
 yes:Bool
 no:Bool
 deriving Inhabited,DecidableEq
def truthL (t:PTruth):List PV := [pbool t.yes,pbool t.no]
def ptruth (t:PTruth):PV:=.agg (truthL t)
def ptruths (l:List PTruth):PV:=.sl l.length 2 (l.flatMap truthL) none
theorem low_ptruths (l:List PTruth):Low (ptruths l)↔True:=by
 simp only [ptruths,low_sl,iff_true]
 intro c hc
 obtain ⟨z,-,hz⟩:=List.mem_flatMap.1 hc
 simp only [truthL,List.mem_cons,List.not_mem_nil,or_false] at hz
 rcases hz with rfl|rfl<;>exact .val _
set_option maxRecDepth 10000 in
set_option maxHeartbeats 1000000 in
theorem pw_idxI (f:Nat) (caps:List PV) (p:Int→Bool) (l:List (Int)) (hf:Nat.blt f 1000000=true) (hl:l.length≤1000000000000) (hlow:∀c∈caps,Low c) (hp:∀k,k < l.length→PCalls Tryz.prog f (pint (l.getD k default) :: caps) (· = pbool (p (l.getD k default)))):PCalls Tryz.prog 255 [pints l, .fn f caps] (· = pint (idxF p l)):=by
 have hlow1:Low (.fn f caps):=.fn f caps hlow
 have hlow2:Low (pints l):=(low_pints l).2 trivial
 refine pcalls_of_pw typeTab_ok Tryz.func255 rfl (by kernel_rfl) (by simp [hlow2,hlow1]) (by simp [pints,PV.ownB]) (by rw [Tryz.ntmps255];simp) ?_
 rw [Tryz.ntmps255,Tryz.results255]
 refine wk ?_
 refine PW.loop (fun k:Nat=>((((bot.put 0 (pints l)).put 1 (.fn f caps)).put 7 (pint l.length)).put 8 (pint k))) (fun k=>k≤l.length∧∀j,j < k→p (l.getD j default)=false) (fun k=>l.length - k) 0 ⟨by omega,by simp⟩ ?_ ?_
 ·exact sb
 ·rintro k ⟨hk,hn⟩
  by_cases hlt:k < l.length
  ·refine wk ?_
   refine PWops.callV hf (hp k hlt) rfl rfl rfl rfl rfl rfl ?_
   cases hpk:p (l.getD k default) with
   |true=>
    refine wk ?_
    refine retP rfl (by exact lw) ?_
    rw [idxF_here default hlt hpk hn];rfl
   |false=>
    refine wk ?_
    refine loopP (k+1) ⟨by omega,fun j hj=>?_⟩ (by omega) ?_
    ·by_cases h:j=k
     ·rw [h];exact hpk
     ·exact hn j (by omega)
    ·exact sb
  ·refine wk ?_
   refine retP rfl (by exact lw) ?_
   rw [idxF_none default (fun j hj=>hn j (by omega))];rfl
set_option maxRecDepth 10000 in
theorem pw_anyI (f:Nat) (caps:List PV) (p:Int→Bool) (l:List (Int)) (hf:Nat.blt f 1000000=true) (hl:l.length≤1000000000000) (hlow:∀c∈caps,Low c) (hp:∀k,k < l.length→PCalls Tryz.prog f (pint (l.getD k default) :: caps) (· = pbool (p (l.getD k default)))):PCalls Tryz.prog 226 [pints l, .fn f caps] (· = pbool (l.any p)):=by
 have hlow1:Low (.fn f caps):=.fn f caps hlow
 have hlow2:Low (pints l):=(low_pints l).2 trivial
 have h:=pw_idxI f caps p l hf hl hlow hp
 refine pcalls_of_pw typeTab_ok Tryz.func226 rfl (by kernel_rfl) (by simp [hlow2,hlow1]) (by simp [pints,PV.ownB]) (by rw [Tryz.ntmps226];simp) ?_
 rw [Tryz.ntmps226,Tryz.results226]
 refine wk ?_
 refine PWops.boolS rfl rfl rfl rfl rfl ?_ ?_
 ·intro hsp
  refine wk ?_
  refine retP rfl (by exact lw) ?_
  rw [←idxF_ge,hsp];rfl
 ·intro hsp
  refine wk ?_
  refine retP rfl (by exact lw) ?_
  rw [←idxF_ge,hsp];rfl
set_option maxRecDepth 10000 in
set_option maxHeartbeats 1000000 in
theorem pw_idxV (f:Nat) (caps:List PV) (p:List Int→Bool) (l:List (List Int)) (hf:Nat.blt f 1000000=true) (hl:l.length≤1000000000000) (hlow:∀c∈caps,Low c) (hp:∀k,k < l.length→PCalls Tryz.prog f (pints (l.getD k default) :: caps) (· = pbool (p (l.getD k default)))):PCalls Tryz.prog 133 [pvecs l, .fn f caps] (· = pint (idxF p l)):=by
 have hlow1:Low (.fn f caps):=.fn f caps hlow
 have hlow2:Low (pvecs l):=(low_pvecs l).2 trivial
 refine pcalls_of_pw typeTab_ok Tryz.func133 rfl (by kernel_rfl) (by simp [hlow2,hlow1]) (by simp [pvecs,PV.ownB]) (by rw [Tryz.ntmps133];simp) ?_
 rw [Tryz.ntmps133,Tryz.results133]
 refine wk ?_
 refine PW.loop (fun k:Nat=>((((bot.put 0 (pvecs l)).put 1 (.fn f caps)).put 7 (pint l.length)).put 8 (pint k))) (fun k=>k≤l.length∧∀j,j < k→p (l.getD j default)=false) (fun k=>l.length - k) 0 ⟨by omega,by simp⟩ ?_ ?_
 ·exact sb
 ·rintro k ⟨hk,hn⟩
  by_cases hlt:k < l.length
  ·refine wk ?_
   refine PWops.callV hf (hp k hlt) rfl rfl rfl rfl rfl rfl ?_
   cases hpk:p (l.getD k default) with
   |true=>
    refine wk ?_
    refine retP rfl (by exact lw) ?_
    rw [idxF_here default hlt hpk hn];rfl
   |false=>
    refine wk ?_
    refine loopP (k+1) ⟨by omega,fun j hj=>?_⟩ (by omega) ?_
    ·by_cases h:j=k
     ·rw [h];exact hpk
     ·exact hn j (by omega)
    ·exact sb
  ·refine wk ?_
   refine retP rfl (by exact lw) ?_
   rw [idxF_none default (fun j hj=>hn j (by omega))];rfl
set_option maxRecDepth 10000 in
theorem pw_anyV (f:Nat) (caps:List PV) (p:List Int→Bool) (l:List (List Int)) (hf:Nat.blt f 1000000=true) (hl:l.length≤1000000000000) (hlow:∀c∈caps,Low c) (hp:∀k,k < l.length→PCalls Tryz.prog f (pints (l.getD k default) :: caps) (· = pbool (p (l.getD k default)))):PCalls Tryz.prog 55 [pvecs l, .fn f caps] (· = pbool (l.any p)):=by
 have hlow1:Low (.fn f caps):=.fn f caps hlow
 have hlow2:Low (pvecs l):=(low_pvecs l).2 trivial
 have h:=pw_idxV f caps p l hf hl hlow hp
 refine pcalls_of_pw typeTab_ok Tryz.func55 rfl (by kernel_rfl) (by simp [hlow2,hlow1]) (by simp [pvecs,PV.ownB]) (by rw [Tryz.ntmps55];simp) ?_
 rw [Tryz.ntmps55,Tryz.results55]
 refine wk ?_
 refine PWops.boolS rfl rfl rfl rfl rfl ?_ ?_
 ·intro hsp
  refine wk ?_
  refine retP rfl (by exact lw) ?_
  rw [←idxF_ge,hsp];rfl
 ·intro hsp
  refine wk ?_
  refine retP rfl (by exact lw) ?_
  rw [←idxF_ge,hsp];rfl
set_option maxRecDepth 10000 in
set_option maxHeartbeats 1000000 in
theorem pw_idxE (f:Nat) (caps:List PV) (p:PEntry→Bool) (l:List (PEntry)) (hf:Nat.blt f 1000000=true) (hl:l.length≤1000000000000) (hlow:∀c∈caps,Low c) (hp:∀k,k < l.length→PCalls Tryz.prog f (pentry (l.getD k default) :: caps) (· = pbool (p (l.getD k default)))):PCalls Tryz.prog 134 [pentries l, .fn f caps] (· = pint (idxF p l)):=by
 have hlow1:Low (.fn f caps):=.fn f caps hlow
 have hlow2:Low (pentries l):=(low_pentries l).2 trivial
 refine pcalls_of_pw typeTab_ok Tryz.func134 rfl (by kernel_rfl) (by simp [hlow2,hlow1]) (by simp [pentries,PV.ownB]) (by rw [Tryz.ntmps134];simp) ?_
 rw [Tryz.ntmps134,Tryz.results134]
 refine wk ?_
 refine PW.loop (fun k:Nat=>((((bot.put 0 (pentries l)).put 1 (.fn f caps)).put 7 (pint l.length)).put 8 (pint k))) (fun k=>k≤l.length∧∀j,j < k→p (l.getD j default)=false) (fun k=>l.length - k) 0 ⟨by omega,by simp⟩ ?_ ?_
 ·exact sb
 ·rintro k ⟨hk,hn⟩
  by_cases hlt:k < l.length
  ·refine wk ?_
   refine PWops.callV hf (hp k hlt) rfl rfl rfl rfl rfl rfl ?_
   cases hpk:p (l.getD k default) with
   |true=>
    refine wk ?_
    refine retP rfl (by exact lw) ?_
    rw [idxF_here default hlt hpk hn];rfl
   |false=>
    refine wk ?_
    refine loopP (k+1) ⟨by omega,fun j hj=>?_⟩ (by omega) ?_
    ·by_cases h:j=k
     ·rw [h];exact hpk
     ·exact hn j (by omega)
    ·exact sb
  ·refine wk ?_
   refine retP rfl (by exact lw) ?_
   rw [idxF_none default (fun j hj=>hn j (by omega))];rfl
set_option maxRecDepth 10000 in
theorem pw_anyE (f:Nat) (caps:List PV) (p:PEntry→Bool) (l:List (PEntry)) (hf:Nat.blt f 1000000=true) (hl:l.length≤1000000000000) (hlow:∀c∈caps,Low c) (hp:∀k,k < l.length→PCalls Tryz.prog f (pentry (l.getD k default) :: caps) (· = pbool (p (l.getD k default)))):PCalls Tryz.prog 56 [pentries l, .fn f caps] (· = pbool (l.any p)):=by
 have hlow1:Low (.fn f caps):=.fn f caps hlow
 have hlow2:Low (pentries l):=(low_pentries l).2 trivial
 have h:=pw_idxE f caps p l hf hl hlow hp
 refine pcalls_of_pw typeTab_ok Tryz.func56 rfl (by kernel_rfl) (by simp [hlow2,hlow1]) (by simp [pentries,PV.ownB]) (by rw [Tryz.ntmps56];simp) ?_
 rw [Tryz.ntmps56,Tryz.results56]
 refine wk ?_
 refine PWops.boolS rfl rfl rfl rfl rfl ?_ ?_
 ·intro hsp
  refine wk ?_
  refine retP rfl (by exact lw) ?_
  rw [←idxF_ge,hsp];rfl
 ·intro hsp
  refine wk ?_
  refine retP rfl (by exact lw) ?_
  rw [←idxF_ge,hsp];rfl
set_option maxRecDepth 10000 in
set_option maxHeartbeats 1000000 in
theorem pw_idxS (f:Nat) (caps:List PV) (p:ByteArray→Bool) (l:List (ByteArray)) (hf:Nat.blt f 1000000=true) (hl:l.length≤1000000000000) (hlow:∀c∈caps,Low c) (hp:∀k,k < l.length→PCalls Tryz.prog f (pstr (l.getD k default) :: caps) (· = pbool (p (l.getD k default)))):PCalls Tryz.prog 185 [pstrs l, .fn f caps] (· = pint (idxF p l)):=by
 have hlow1:Low (.fn f caps):=.fn f caps hlow
 have hlow2:Low (pstrs l):=(low_pstrs l).2 trivial
 refine pcalls_of_pw typeTab_ok Tryz.func185 rfl (by kernel_rfl) (by simp [hlow2,hlow1]) (by simp [pstrs,PV.ownB]) (by rw [Tryz.ntmps185];simp) ?_
 rw [Tryz.ntmps185,Tryz.results185]
 refine wk ?_
 refine PW.loop (fun k:Nat=>((((bot.put 0 (pstrs l)).put 1 (.fn f caps)).put 7 (pint l.length)).put 8 (pint k))) (fun k=>k≤l.length∧∀j,j < k→p (l.getD j default)=false) (fun k=>l.length - k) 0 ⟨by omega,by simp⟩ ?_ ?_
 ·exact sb
 ·rintro k ⟨hk,hn⟩
  by_cases hlt:k < l.length
  ·refine wk ?_
   refine PWops.callV hf (hp k hlt) rfl rfl rfl rfl rfl rfl ?_
   cases hpk:p (l.getD k default) with
   |true=>
    refine wk ?_
    refine retP rfl (by exact lw) ?_
    rw [idxF_here default hlt hpk hn];rfl
   |false=>
    refine wk ?_
    refine loopP (k+1) ⟨by omega,fun j hj=>?_⟩ (by omega) ?_
    ·by_cases h:j=k
     ·rw [h];exact hpk
     ·exact hn j (by omega)
    ·exact sb
  ·refine wk ?_
   refine retP rfl (by exact lw) ?_
   rw [idxF_none default (fun j hj=>hn j (by omega))];rfl
set_option maxRecDepth 10000 in
theorem pw_anyS (f:Nat) (caps:List PV) (p:ByteArray→Bool) (l:List (ByteArray)) (hf:Nat.blt f 1000000=true) (hl:l.length≤1000000000000) (hlow:∀c∈caps,Low c) (hp:∀k,k < l.length→PCalls Tryz.prog f (pstr (l.getD k default) :: caps) (· = pbool (p (l.getD k default)))):PCalls Tryz.prog 104 [pstrs l, .fn f caps] (· = pbool (l.any p)):=by
 have hlow1:Low (.fn f caps):=.fn f caps hlow
 have hlow2:Low (pstrs l):=(low_pstrs l).2 trivial
 have h:=pw_idxS f caps p l hf hl hlow hp
 refine pcalls_of_pw typeTab_ok Tryz.func104 rfl (by kernel_rfl) (by simp [hlow2,hlow1]) (by simp [pstrs,PV.ownB]) (by rw [Tryz.ntmps104];simp) ?_
 rw [Tryz.ntmps104,Tryz.results104]
 refine wk ?_
 refine PWops.boolS rfl rfl rfl rfl rfl ?_ ?_
 ·intro hsp
  refine wk ?_
  refine retP rfl (by exact lw) ?_
  rw [←idxF_ge,hsp];rfl
 ·intro hsp
  refine wk ?_
  refine retP rfl (by exact lw) ?_
  rw [←idxF_ge,hsp];rfl
set_option maxRecDepth 10000 in
set_option maxHeartbeats 1000000 in
theorem pw_idxT (f:Nat) (caps:List PV) (p:PTruth→Bool) (l:List (PTruth)) (hf:Nat.blt f 1000000=true) (hl:l.length≤1000000000000) (hlow:∀c∈caps,Low c) (hp:∀k,k < l.length→PCalls Tryz.prog f (ptruth (l.getD k default) :: caps) (· = pbool (p (l.getD k default)))):PCalls Tryz.prog 263 [ptruths l, .fn f caps] (· = pint (idxF p l)):=by
 have hlow1:Low (.fn f caps):=.fn f caps hlow
 have hlow2:Low (ptruths l):=(low_ptruths l).2 trivial
 refine pcalls_of_pw typeTab_ok Tryz.func263 rfl (by kernel_rfl) (by simp [hlow2,hlow1]) (by simp [ptruths,PV.ownB]) (by rw [Tryz.ntmps263];simp) ?_
 rw [Tryz.ntmps263,Tryz.results263]
 refine wk ?_
 refine PW.loop (fun k:Nat=>((((bot.put 0 (ptruths l)).put 1 (.fn f caps)).put 7 (pint l.length)).put 8 (pint k))) (fun k=>k≤l.length∧∀j,j < k→p (l.getD j default)=false) (fun k=>l.length - k) 0 ⟨by omega,by simp⟩ ?_ ?_
 ·exact sb
 ·rintro k ⟨hk,hn⟩
  by_cases hlt:k < l.length
  ·refine wk ?_
   refine PWops.callV hf (hp k hlt) rfl rfl rfl rfl rfl rfl ?_
   cases hpk:p (l.getD k default) with
   |true=>
    refine wk ?_
    refine retP rfl (by exact lw) ?_
    rw [idxF_here default hlt hpk hn];rfl
   |false=>
    refine wk ?_
    refine loopP (k+1) ⟨by omega,fun j hj=>?_⟩ (by omega) ?_
    ·by_cases h:j=k
     ·rw [h];exact hpk
     ·exact hn j (by omega)
    ·exact sb
  ·refine wk ?_
   refine retP rfl (by exact lw) ?_
   rw [idxF_none default (fun j hj=>hn j (by omega))];rfl
set_option maxRecDepth 10000 in
theorem pw_anyT (f:Nat) (caps:List PV) (p:PTruth→Bool) (l:List (PTruth)) (hf:Nat.blt f 1000000=true) (hl:l.length≤1000000000000) (hlow:∀c∈caps,Low c) (hp:∀k,k < l.length→PCalls Tryz.prog f (ptruth (l.getD k default) :: caps) (· = pbool (p (l.getD k default)))):PCalls Tryz.prog 240 [ptruths l, .fn f caps] (· = pbool (l.any p)):=by
 have hlow1:Low (.fn f caps):=.fn f caps hlow
 have hlow2:Low (ptruths l):=(low_ptruths l).2 trivial
 have h:=pw_idxT f caps p l hf hl hlow hp
 refine pcalls_of_pw typeTab_ok Tryz.func240 rfl (by kernel_rfl) (by simp [hlow2,hlow1]) (by simp [ptruths,PV.ownB]) (by rw [Tryz.ntmps240];simp) ?_
 rw [Tryz.ntmps240,Tryz.results240]
 refine wk ?_
 refine PWops.boolS rfl rfl rfl rfl rfl ?_ ?_
 ·intro hsp
  refine wk ?_
  refine retP rfl (by exact lw) ?_
  rw [←idxF_ge,hsp];rfl
 ·intro hsp
  refine wk ?_
  refine retP rfl (by exact lw) ?_
  rw [←idxF_ge,hsp];rfl
set_option maxRecDepth 10000 in
set_option maxHeartbeats 1000000 in
theorem pw_idxD (f:Nat) (caps:List PV) (p:PDef→Bool) (l:List (PDef)) (hf:Nat.blt f 1000000=true) (hl:l.length≤1000000000000) (hlow:∀c∈caps,Low c) (hp:∀k,k < l.length→PCalls Tryz.prog f (.agg (pdefL (l.getD k default)) :: caps) (· = pbool (p (l.getD k default)))):PCalls Tryz.prog 175 [pdefs l, .fn f caps] (· = pint (idxF p l)):=by
 have hlow1:Low (.fn f caps):=.fn f caps hlow
 have hlow2:Low (pdefs l):=(low_pdefs l).2 trivial
 refine pcalls_of_pw typeTab_ok Tryz.func175 rfl (by kernel_rfl) (by simp [hlow2,hlow1]) (by simp [pdefs,PV.ownB]) (by rw [Tryz.ntmps175];simp) ?_
 rw [Tryz.ntmps175,Tryz.results175]
 refine wk ?_
 refine PW.loop (fun k:Nat=>((((bot.put 0 (pdefs l)).put 1 (.fn f caps)).put 7 (pint l.length)).put 8 (pint k))) (fun k=>k≤l.length∧∀j,j < k→p (l.getD j default)=false) (fun k=>l.length - k) 0 ⟨by omega,by simp⟩ ?_ ?_
 ·exact sb
 ·rintro k ⟨hk,hn⟩
  by_cases hlt:k < l.length
  ·refine wk ?_
   refine PWops.callV hf (hp k hlt) rfl rfl rfl rfl rfl rfl ?_
   cases hpk:p (l.getD k default) with
   |true=>
    refine wk ?_
    refine retP rfl (by exact lw) ?_
    rw [idxF_here default hlt hpk hn];rfl
   |false=>
    refine wk ?_
    refine loopP (k+1) ⟨by omega,fun j hj=>?_⟩ (by omega) ?_
    ·by_cases h:j=k
     ·rw [h];exact hpk
     ·exact hn j (by omega)
    ·exact sb
  ·refine wk ?_
   refine retP rfl (by exact lw) ?_
   rw [idxF_none default (fun j hj=>hn j (by omega))];rfl
end
end Go.Proofs.YtoamkpgaaanafaaGreat
