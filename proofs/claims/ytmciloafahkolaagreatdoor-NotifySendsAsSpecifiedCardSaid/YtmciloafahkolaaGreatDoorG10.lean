/- Out of: PwIt3, PwOw, PwIt4, PwIt5, PwIt6, AttrM, AttrC, AttrD, AttrE, AttrF, AttrJ, AttrK, StrB, PwQ, AttrL, AttrS, Za, Cs, Nc, Zb, Nd, Ne, PwOx. -/
import Derived.Laws.RangeAny
import Derived.Lib.OthersKept
import Derived.Outline
import Derived.Laws.EntriesVeiled
import Derived.StillTailTactics
import Derived.Deep.Cut
import Derived.Test.YtmciloafahkolaaGreatDoorG5
import Derived.Test.YtmciloafahkolaaGreatDoorG6
namespace Go.Proofs.YtmciloafahkolaaGreatDoor
set_option maxRecDepth 100000
set_option maxHeartbeats 40000000
set_option linter.unusedSimpArgs false
set_option linter.unusedVariables false
set_option linter.unnecessarySimpa false
section
open Go.RowKit
def Xyl (ops:List Oper) (n0:Nat):Bool:=Xk6 ops && (List.range n0).all (fun j=>((clos ops).getD n0 []).contains j) && (List.range' (n0+1) (ops.length - (n0+1))).all (fun j=>((clos ops).getD j []).contains n0)
end
section
open Go.RowKit
variable {E:Xag} {Lb:Nat→Prop} {Φ0:Ent} {W:World} {M:Nat} {κ:Come} {σ:PS} {a:Act} {w:World} {P:Program} {T:Tab} {Q:Exit→PS→Come→Prop} {ops:List Oper} {base:Nat}
theorem Xoj (hT:T=Kf P) (hbase:base+ops.toArray.size≤1000000) (hall:∀(j:Nat) o,ops.toArray[j]? = some o→dstB M o=true) {n0:Nat} (hdraw:Xyl ops n0=true)
  {l d:Nat} {A:List (List PV)→Prop} (hgiv:∀b,Old Φ0 W b→¬Mix Φ0.imm b) (hy:YOK P E l A Φ0.imm Lb W.heap.size) (hr:Φ0.round=none) {pre:List (List PV)} {x:List PV} {before after:List (Nat×Oper)} {y:Oper} (hsp:Xa 0 ops=before ++ (n0,y) :: after) {Q' : Exit→Act→World→Prop} {Qa:Bool→PS→Prop}
  (hQ:∀b σ a w,Qa b σ→RelJ E Lb Φ0 W M (if b then some (pre ++ [x]) else none) σ a w→Q' .normal a w) :
  ∀(fuel:Nat) (listed:Array Bool) (σ:PS) (a:Act) (w:World),Ke listed≤fuel→listed.size=ops.length→(∀(i:Nat) o,ops[i]? = some o→listed.getD i false=true→∀j,depO o j=true→listed.getD j false=true)→listed.getD n0 false=false →
   X5 P T ops.toArray base (okR ops base) (before.filter fun x => !listed.getD x.1 false) (fun σ' => YAt l A M pre x y d σ'∧∀b,X5 P T ops.toArray base (okR ops base) after (Qa b) (X5b σ' d b)) σ→RelJ E Lb Φ0 W M (some pre) σ a w→wpAnyIn (FW Φ0.round) 0 P .any ops.toArray Q' fuel listed a w:=by
 simp only [Xyl,Bool.and_eq_true] at hdraw
 obtain ⟨⟨hdr,hd1⟩,hd2⟩:=hdraw
 obtain ⟨hE,hI⟩:=X6d hdr
 have hsz:∀listed:Array Bool,listed.size=ops.length→listed.size=ops.toArray.size:=fun l h=>by simpa using h
 have hsorted:=Kz 0 ops
 rw [hsp,List.pairwise_append] at hsorted
 obtain ⟨hsb,hsa,hsx⟩:=hsorted
 rw [List.pairwise_cons] at hsa
 have hmem:∀z∈Xa 0 ops,ops[z.1]? = some z.2:=by
  intro z hz
  obtain ⟨-,h2⟩:=Yb 0 ops z hz
  simpa using h2
 have hy0:ops[n0]? = some y:=hmem (n0,y) (by rw [hsp];exact List.mem_append.2 (.inr List.mem_cons_self))
 have hn0:n0 < ops.length:=(List.getElem?_eq_some_iff.1 hy0).1
 have hbm:∀z∈before,z.1 < n0∧ops[z.1]? = some z.2:=fun z hz=>⟨hsx z hz (n0,y) List.mem_cons_self,hmem z (by rw [hsp];exact List.mem_append.2 (.inl hz))⟩
 have ham:∀z∈after,n0 < z.1∧ops[z.1]? = some z.2:=fun z hz=>⟨hsa.1 z hz,hmem z (by rw [hsp];exact List.mem_append.2 (.inr (List.mem_cons_of_mem _ hz)))⟩
 have hcb:∀z∈before,z.1∈(clos ops).getD n0 []:=fun z hz=>List.contains_iff_mem.1 (List.all_eq_true.1 hd1 z.1 (List.mem_range.2 (hbm z hz).1))
 have hca:∀z∈after,n0∈(clos ops).getD z.1 []:=fun z hz=>List.contains_iff_mem.1 (List.all_eq_true.1 hd2 z.1 (by
  have:=(ham z hz).1
  have:=(List.getElem?_eq_some_iff.1 (ham z hz).2).1
  rw [List.mem_range'_1];omega))
 have hinx:∀(i:Nat) o,ops[i]? = some o→(i,o)∈Xa 0 ops:=by
  have:∀(l:List Oper) (k i:Nat) o,l[i]? = some o→(k+i,o)∈Xa k l:=by
   intro l
   induction l with
   |nil=>intro k i o h;simp at h
   |cons p l ih=>
    intro k i o h
    cases i with
    |zero=>simp at h;subst h;simp [Xa]
    |succ i=>
     simp at h
     have:=ih (k+1) i o h
     simp only [Xa,List.mem_cons]
     right
     rw [show k+(i+1)=k+1+i by omega];exact this
  intro i o h
  have:=this ops 0 i o h
  rwa [Nat.zero_add] at this
 have alls:∀listed:Array Bool,listed.size=ops.length→Region.ready .any ops.toArray listed = []→∀i,i < ops.length→listed.getD i false=true:=by
  intro listed hs hr i
  induction i using Nat.strongRecOn with
  |_ i ih=>
   intro hi
   have ho:ops.toArray[i]? = some ops[i]:=by simp [hi]
   cases hl:listed.getD i false with
   |true=>rfl
   |false=>
    have:i∈Region.ready .any ops.toArray listed:=(Ym (hsz listed hs)).2 ⟨ops[i],ho,hl,fun j hj=>by
     obtain ⟨e,he,hb,rfl⟩:=X2t.1 hj
     have:=hE i ops[i] (by simp [hi]) e he hb
     exact ih e.on this O_⟩
    rw [hr] at this;cases this
 intro fuel
 induction fuel with
 |zero=>
  intro listed σ a w hu hs hcl hn h hr
  have hl:=Ky (Nat.le_zero.1 hu)
  rw [hl n0 (by rw [hs];exact hn0)] at hn
  cases hn
 |succ fuel ih=>
  intro listed σ a w hu hs hcl hn h hrel
  refine ⟨(fun hrd=>by rw [alls listed hs hrd n0 hn0] at hn;cases hn),fun i hi=>?_⟩
  obtain ⟨o,ho,h1,h2⟩:=(Ym (hsz listed hs)).1 hi
  have ho' : ops[i]? = some o:=by simpa using ho
  have hil:i < ops.length:=(List.getElem?_eq_some_iff.1 ho').1
  have hset:listed.getD i false=false:=h1
  have hlt:i < listed.size:=by rw [hs];exact hil
  have hcl' : ∀(k:Nat) p,ops[k]? = some p→(listed.setIfInBounds i true).getD k false=true→∀j,depO p j=true→(listed.setIfInBounds i true).getD j false=true:=by
   intro k p hp hk j hj
   rw [Yk _ _ _ hlt] at hk ⊢
   simp only [Bool.or_eq_true,decide_eq_true_eq] at hk ⊢
   rcases hk with rfl|hk
   ·rw [ho'] at hp;cases hp;exact .inr (h2 j hj)
   ·exact .inr (hcl k p hp hk j hj)
  have hin:=hinx i o ho'
  rw [hsp] at hin
  rcases List.mem_append.1 hin with hin|hin
  ·-- ahead of the call
   have hmem:(i,o)∈before.filter fun x => !listed.getD x.1 false:=by
    rw [List.mem_filter]
    exact ⟨hin,by simp [h1]⟩
   obtain ⟨pre',post',hL⟩:=List.append_of_mem hmem
   have hsort:(before.filter fun x => !listed.getD x.1 false).Pairwise (fun a b=>a.1 < b.1):=hsb.filter _
   rw [hL] at h hsort
   rw [List.pairwise_append] at hsort
   obtain ⟨-,hs2,hs3⟩:=hsort
   rw [List.pairwise_cons] at hs2
   have hpre:∀y∈pre',y.1 < i:=fun y hy=>hs3 y hy (i,o) S_
   have hpost:∀y∈post',i < y.1:=fun y hy=>hs2.1 y hy
   have hprem:∀y∈pre',ops[y.1]? = some y.2∧listed.getD y.1 false=false:=by
    intro y hy
    have:y∈before.filter fun x => !listed.getD x.1 false:=by rw [hL];simp [hy]
    rw [List.mem_filter] at this
    exact ⟨(hbm y this.1).2,by simpa using this.2⟩
   have hb:=X5.bubble (P:=P) (T:=T) (base:=base) (ok:=okR ops base) (cl:=clos ops) (ix:=i) (x:=o) (post:=post') (Q:=fun σ' => YAt l A M pre x y d σ'∧∀b,X5 P T ops.toArray base (okR ops base) after (Qa b) (X5b σ' d b)) pre' σ (by
    intro y hy
    obtain ⟨q1,q2⟩:=hprem y hy
    have hlt:=hpre y hy
    have hnc:y.1∉(clos ops).getD i []:=fun hc=>by
     rw [V1 hE hcl i o ho' h2 y.1 hc] at q2;cases q2
    have hyl:y.1 < ops.length:=(List.getElem?_eq_some_iff.1 q1).1
    refine ⟨⟨by simpa using (hI i y.1 o y.2 ho' q1 hlt).resolve_left hnc,fun hs j hj1 hj2=>Xmm (ops:=ops) q1 ho' (by simpa using hs) j hj1 hj2⟩,O_,?_,?_⟩
    ·rw [okR,Bool.and_eq_false_iff];left
     simp only [okD,Bool.or_eq_false_iff,decide_eq_false_iff_not]
     refine ⟨⟨O_,O_⟩,?_⟩
     rw [Nat.add_sub_cancel_left]
     simpa using hnc
    ·rw [okR,Bool.and_eq_false_iff];left
     simp only [okD,Bool.or_eq_false_iff,decide_eq_false_iff_not]
     refine ⟨⟨O_,O_⟩,?_⟩
     rw [Nat.add_sub_cancel_left]
     have:i∉(clos ops).getD y.1 []:=fun hc=>by have:=X8w hE y.1 y.2 q1 i hc;omega
     simpa using this) h
   have hrem:pre' ++ post' = before.filter fun x => !(listed.setIfInBounds i true).getD x.1 false:=by
    have e1:(before.filter fun x => !(listed.setIfInBounds i true).getD x.1 false)=(before.filter fun x => !listed.getD x.1 false).filter (fun x => !decide (x.1=i)):=by
     rw [List.filter_filter]
     congr 1
     funext x
     rw [Yk _ _ _ hlt]
     cases listed.getD x.1 false<;>simp
    rw [e1,hL,List.filter_append,List.filter_cons]
    have e2:pre'.filter (fun x => !decide (x.1=i))=pre':=List.filter_eq_self.2 (fun y hy=>by have:=hpre y hy;simp;omega)
    have e3:post'.filter (fun x => !decide (x.1=i))=post':=List.filter_eq_self.2 (fun y hy=>by have:=hpost y hy;simp;omega)
    rw [e2,e3]
    simp
   have hn' : (listed.setIfInBounds i true).getD n0 false=false:=by
    rw [Yk _ _ _ hlt]
    have:=(hbm (i,o) hin).1
    simp only at this
    rw [hn]
    simp;omega
   obtain ⟨Φf,W',hrel',hbk⟩:=Xo2 σ a w hrel
   have hstep:=X1w (Φ0:=Φf) (W:=W') (M:=M) hT hall (base:=base) hbase ho (K':=wpAnyIn (FW Φ0.round) 0 P .any ops.toArray Q' fuel (listed.setIfInBounds i true)) (Q':=Q') (fun σ' a' w' hk hr' => ih (listed.setIfInBounds i true) σ' a' w' (by have:=V0 listed i hlt hset;omega) (by simpa using hs) hcl' hn' (by rw [←hrem];exact hk) (hbk _ _ _ hr')) hb hrel'
   unfold wpOpIn
   rw [ho]
   simp only
   split
   ·rename_i hw;rw [if_pos hw] at hstep;exact Vl (Vz (hall i o ho)) hstep
   ·rename_i hw;rw [if_neg hw] at hstep;exact ⟨fun _ _=>trivial,hstep⟩
  ·rcases List.mem_cons.1 hin with hin|hin
   ·-- the call
    cases hin
    have hall' : ∀z∈before,listed.getD z.1 false=true:=fun z hz=>V1 hE hcl n0 y hy0 h2 z.1 (hcb z hz)
    have hnil:(before.filter fun x => !listed.getD x.1 false) = []:=by
     rw [List.filter_eq_nil_iff]
     intro z hz
     simp [hall' z hz]
    rw [hnil] at h
    obtain ⟨hya,haf⟩:=h
    unfold wpOpIn
    rw [ho]
    simp only
    have hw:Region.wanted y (yielded ops.toArray a.tmps)=true:=by simp [Region.wanted,hya.guard]
    rw [if_pos hw]
    refine Xcr (opsY:=ops.toArray) hgiv hy hr hrel hya.toG (fun b a2 w2 hr2=>?_)
    refine Xpi (R:=RelJ E Lb Φ0 W M (if b then some (pre ++ [x]) else none)) (r:=Φ0.round) Xo2 hT hbase hall hdr (Q:=Qa b) (fun σ' a' w' hq hr' => hQ b σ' a' w' hq hr') fuel (listed.setIfInBounds n0 true) _ a2 w2 (by have:=V0 listed n0 hlt hset;omega) (by simpa using hs) hcl' ?_ hr2
    have:((Xa 0 ops).filter fun x => !(listed.setIfInBounds n0 true).getD x.1 false)=after:=by
     rw [hsp,List.filter_append,List.filter_cons]
     have e1:(before.filter fun x => !(listed.setIfInBounds n0 true).getD x.1 false) = []:=by
      rw [List.filter_eq_nil_iff]
      intro z hz
      rw [Yk _ _ _ hlt]
      simp [hall' z hz]
     have e2:(after.filter fun x => !(listed.setIfInBounds n0 true).getD x.1 false)=after:=by
      rw [List.filter_eq_self]
      intro z hz
      rw [Yk _ _ _ hlt]
      have hz1:=(ham z hz).1
      have hz2:listed.getD z.1 false=false:=by
       cases hzz:listed.getD z.1 false with
       |false=>rfl
       |true=>
        have:=V1 hE hcl z.1 z.2 (ham z hz).2 (hcl z.1 z.2 (ham z hz).2 hzz) n0 (hca z hz)
        rw [hn] at this;cases this
      rw [hz2]
      simp;omega
     rw [e1,e2,Yk _ _ _ hlt]
     simp
    rw [this]
    exact haf b
   ·-- behind the call: it has not come yet
    have:=V1 hE hcl i o ho' h2 n0 (hca (i,o) hin)
    rw [hn] at this;cases this
theorem PWJ.draw (hT:T=Kf P) (hm:P.follows .mixedOrders=true) {l d:Nat} {A:List (List PV)→Prop} (hgiv:∀b,Old Φ0 W b→¬Mix Φ0.imm b) (hy:YOK P E l A Φ0.imm Lb W.heap.size) (hr:Φ0.round=none) {id:Nat} (hall2:(ops.all (dstB M) && Nat.ble (1000 * id+ops.length) 1000000)=true) {n0:Nat} (hd:Xyl ops n0=true)
  {before after:List (Nat×Oper)} {y:Oper} (hsp:Xa 0 ops=before ++ (n0,y) :: after) {pre:List (List PV)} {x:List PV} (hk:κ=some pre)
  (h:X5 P T ops.toArray (1000 * id) (okR ops (1000 * id)) before (fun σ' => YAt l A M pre x y d σ'∧∀b:Bool,X5 P T ops.toArray (1000 * id) (okR ops (1000 * id)) after (fun σ'' => Q .normal σ'' (if b then some (pre ++ [x]) else none)) (X5b σ' d b)) σ) :
  PWJ E Lb Φ0 W P M (.region id ops.toArray true) Q σ κ:=by
 intro a w hrel
 subst hk
 have hall2':=hall2
 simp only [Bool.and_eq_true] at hall2'
 obtain ⟨hall,hb0⟩:=hall2'
 have hbase:=Nat.le_of_ble_eq_true hb0
 refine wpIn_region_any hm ?_
 have hn0:n0 < ops.length:=by
  have:(n0,y)∈Xa 0 ops:=by rw [hsp];exact List.mem_append.2 (.inr List.mem_cons_self)
  obtain ⟨-,h2⟩:=Yb 0 ops _ this
  exact (List.getElem?_eq_some_iff.1 (by simpa using h2)).1
 refine Xoj (base:=1000 * id) (d:=d) (Qa:=fun b σ'' => Q .normal σ'' (if b then some (pre ++ [x]) else none)) hT (by simpa using hbase) (by
  intro j o hj
  exact List.all_eq_true.1 hall o (Xc (by simpa using hj))) hd hgiv hy hr hsp (fun b σ' a' w' hq hr' => ⟨σ',_,hq,hr'⟩) _ _ σ a _ ?_ S_ ?_ ?_ ?_ hrel.drew
 ·unfold Ke
  exact Nat.le_trans List.countP_le_length S_
 ·intro i o ho hl
  simp [Array.getD_eq_getD_getElem?,Array.getElem?_replicate] at hl
  split at hl<;>simp_all
 ·simp [Array.getD_eq_getD_getElem?,Array.getElem?_replicate]
  split<;>rfl
 ·have:(before.filter fun x => !(Array.replicate ops.toArray.size false).getD x.1 false)=before:=by
   rw [List.filter_eq_self]
   intro x _
   simp [Array.getD_eq_getD_getElem?,Array.getElem?_replicate]
   split<;>rfl
  rw [this]
  exact h
theorem X5.mono {P:Program} {T:Tab} {ops:Array Oper} {base:Nat} {ok:Nat→Nat→Bool} {Q Q' : PS→Prop} (hq:∀σ,Q σ→Q' σ):∀{l:List (Nat×Oper)} {σ:PS},X5 P T ops base ok l Q σ→X5 P T ops base ok l Q' σ
 | [],σ,h=>hq σ h
 |(i,o) :: l,σ,⟨E,h1,h2⟩=>⟨E,h1,X5.mono hq h2⟩
theorem PWJ.regionG (n0:Nat) (hT:T=Kf P) {l d:Nat} {A:List (List PV)→Prop} (hgiv:∀b,Old Φ0 W b→¬Mix Φ0.imm b) (hy:YOK P E l A Φ0.imm Lb W.heap.size) (hr:Φ0.round=none) {id:Nat} (hall2:(ops.all (dstB M) && Nat.ble (1000 * id+ops.length) 1000000)=true)
  {y:Oper} (hsp:ops[n0]? = some y) {pre:List (List PV)} {x:List PV} (hk:κ=some pre)
  (h:X5 P T ops.toArray (1000 * id) (fun _ _=>true) ((Xa 0 ops).take n0) (fun σ' => YAtG ops.toArray l A M pre x y d σ'∧∀b:Bool,X5 P T ops.toArray (1000 * id) (fun _ _=>true) ((Xa 0 ops).drop (n0+1)) (fun σ'' => Q .normal σ'' (if b then some (pre ++ [x]) else none)) (X5b σ' d b)) σ) :
  PWJ E Lb Φ0 W P M (.region id ops.toArray false) Q σ κ:=by
 refine PWJ.region hT hgiv hy hr hall2 (before:=(Xa 0 ops).take n0) (after:=(Xa 0 ops).drop (n0+1)) (n0:=n0) (y:=y) ?_ hk h
 have hlen:n0 < (Xa 0 ops).length:=by rw [X2e];exact (List.getElem?_eq_some_iff.1 hsp).1
 have e1:(Xa 0 ops)[n0]=(n0,y):=by
  have hf:((Xa 0 ops).map (·.1))[n0]? = some n0:=by
   rw [X15,List.getElem?_range' (by rw [X2e] at hlen;exact hlen)];simp
  rw [M_,E_ hlen] at hf
  have h1:((Xa 0 ops)[n0]).1=n0:=by simpa using hf
  obtain ⟨-,h2⟩:=Yb 0 ops _ (List.getElem_mem hlen)
  rw [h1,Nat.sub_zero,hsp] at h2
  exact Prod.ext h1 (Option.some.inj h2).symm
 rw [←e1]
 exact (List.take_append_drop n0 _).symm.trans (by rw [List.drop_eq_getElem_cons hlen])
theorem PWJ.regionN (n0:Nat) (hT:T=Kf P) {l d:Nat} {A:List (List PV)→Prop} (hgiv:∀b,Old Φ0 W b→¬Mix Φ0.imm b) (hy:YOK P E l A Φ0.imm Lb W.heap.size) (hr:Φ0.round=none) {id:Nat} (hall2:(ops.all (dstB M) && Nat.ble (1000 * id+ops.length) 1000000)=true)
  {y:Oper} (hsp:ops[n0]? = some y) {pre:List (List PV)} {x:List PV} (hk:κ=some pre)
  (h:X5 P T ops.toArray (1000 * id) (fun _ _=>true) ((Xa 0 ops).take n0) (fun σ' => YAt l A M pre x y d σ'∧∀b:Bool,X5 P T ops.toArray (1000 * id) (fun _ _=>true) ((Xa 0 ops).drop (n0+1)) (fun σ'' => Q .normal σ'' (if b then some (pre ++ [x]) else none)) (X5b σ' d b)) σ) :
  PWJ E Lb Φ0 W P M (.region id ops.toArray false) Q σ κ:=
 PWJ.regionG n0 hT hgiv hy hr hall2 hsp hk (X5.mono (fun σ' h=>⟨h.1.toG,h.2⟩) h)
theorem PWJ.condT {c:Operand} {x y:Code} (hc:pev σ c = .val (.bool true)) (h:PWJ E Lb Φ0 W P M x Q σ κ):PWJ E Lb Φ0 W P M (.cond c x y) Q σ κ:=PWJ.cond hc h
theorem PWJ.condF {c:Operand} {x y:Code} (hc:pev σ c = .val (.bool false)) (h:PWJ E Lb Φ0 W P M y Q σ κ):PWJ E Lb Φ0 W P M (.cond c x y) Q σ κ:=PWJ.cond hc h
theorem Yad {y:Code} (h:PWJ E Lb Φ0 W P M y Q σ κ):Xys E Lb Φ0 W P M y Q .normal σ κ:=h
theorem Xsx {y:Code} (h:Q .ret σ κ):Xys E Lb Φ0 W P M y Q .ret σ κ:=h
theorem Xol {y:Code} {i:Nat} (h:Q (.exit i) σ κ):Xys E Lb Φ0 W P M y Q (.exit i) σ κ:=h
theorem Y81 {id:Nat} (h:Q .normal σ κ):Xa2 id Q .normal σ κ:=h
theorem Xlr {id:Nat} (h:Q .normal σ κ):Xa2 id Q (.exit id) σ κ:=by simpa [Xa2] using h
theorem Xpx {id:Nat} (h:Q .ret σ κ):Xa2 id Q .ret σ κ:=h
theorem Xhg {id j:Nat} (hj:j≠id) (h:Q (.exit j) σ κ):Xa2 id Q (.exit j) σ κ:=by simpa [Xa2,hj] using h
theorem Ya5 {α:Type} {st:α→PS} {kf:α→Come} {I:α→Prop} {m:α→Nat} {x:α} (y:α) (hi:I y) (hm:m y < m x) (hs:Sub M σ (st y)) (hk:κ=kf y):Xz5 M st kf I m x Q .normal σ κ:=⟨y,hi,hm,hs,hk⟩
theorem Xpd {α:Type} {st:α→PS} {kf:α→Come} {I:α→Prop} {m:α→Nat} {x:α} {j:Nat} (h:Q (.exit j) σ κ):Xz5 M st kf I m x Q (.exit j) σ κ:=h
theorem Xrm {α:Type} {st:α→PS} {kf:α→Come} {I:α→Prop} {m:α→Nat} {x:α} (h:Q .ret σ κ):Xz5 M st kf I m x Q .ret σ κ:=h
def RetJ (T:Tab) (rs:List ResultVar) (S:List (List PV)→Prop):Exit→PS→Come→Prop
 | .ret,σ,κ=>(∃r,V7 T σ rs=some r)∧∀xs,κ=some xs→S xs
 | .normal,σ,κ=>(∃r,V7 T σ rs=some r)∧∀xs,κ=some xs→S xs
 |_,_,_=>False
theorem V2.lent {S B B' : Nat→Prop} {Φ:Imm} {μ μ' : Nat→Option Nat} {ω ω' : Nat→Option Who} {w:World} {id:Nat} {bs:List PV} (h:V2 B Φ μ ω w id bs) (hs:S id) (hl:∀c∈bs,LowI S c) (hno:∀c∈bs,c.ownB=false) (hμ:∀i,S i→∀g,μ i=some g→μ' i=some g) (hω:∀g,μ id=some g→ω g=some (.box id)→ω' g=some (.box id)∧B' g):V2 B' Φ μ' ω' w id bs:=by
 obtain ⟨g,cur,T,h1,h2,h3,h4,h5,h6,h7⟩:=h
 obtain ⟨k1,k2⟩:=hω g h1 h4
 refine ⟨g,cur,T,hμ _ hs _ h1,h2,k2,k1,h5,h6,fun j c hc=>?_⟩
 obtain ⟨u,r1,r2,r3,-⟩:=h7 j c hc
 exact ⟨u,r1,r2,r3.lowI (hl c (Xc hc)) hμ,fun n k cs E e=>by have:=hno c (Xc hc);rw [e] at this;simp [PV.ownB] at this⟩
theorem Z6.lent {S B B' : Nat→Prop} {Φ:Imm} {μ μ' : Nat→Option Nat} {ω ω' : Nat→Option Who} {w:World} {id:Nat} {X:PMap} (h:Z6 B Φ μ ω w id X) (hs:S id) (hl:LowM S X) (hno:∀es clock,X = .map es clock→∀e∈es,e.2.2.ownB=false) (hμ:∀i,S i→∀g,μ i=some g→μ' i=some g) (hω:∀g,μ id=some g→ω g=some (.box id)→ω' g=some (.box id)∧B' g):Z6 B' Φ μ' ω' w id X:=by
 obtain ⟨g,h1,h2,h3,h4,h5⟩:=h
 obtain ⟨k1,k2⟩:=hω g h1 h3
 refine ⟨g,hμ _ hs _ h1,k2,k1,h4,?_⟩
 cases X with
 |map es clock=>
  obtain ⟨e0,ents,e1,e2,e3⟩:=h5
  refine ⟨e0,ents,e1,e2,fun j s k c hj=>?_⟩
  obtain ⟨e,f1,f2,f3,f4,f5⟩:=e3 j s k c hj
  have:=hl _ (Xc hj)
  exact ⟨e,f1,f2,f3.lowI this.1 hμ,f4.lowI this.2 hμ,fun n kk cs E ec=>by have:=hno es clock rfl _ (Xc hj);simp only [ec] at this;simp [PV.ownB] at this⟩
 |iter mid since seen last=>
  obtain ⟨gm,e1,e2⟩:=h5
  exact ⟨gm,hμ _ hl _ e1,e2⟩
structure Xdm (given:List (Nat×List PV)) (gm:List (Nat×PMap)):Prop where
 nd:(X0 given gm).Nodup
 lowb:∀x∈given,∀c∈x.2,LowI (fun i=>i∈X0 given gm) c
 lowm:∀x∈gm,LowM (fun i=>i∈X0 given gm) x.2
 nob:∀x∈given,∀c∈x.2,c.ownB=false
 nom:∀x∈gm,∀es clock,x.2 = .map es clock→∀e∈es,e.2.2.ownB=false
theorem Xdm.nil:Xdm [] []:=⟨by simp [X0],S_,S_,S_,S_⟩
theorem Xg6 {given:List (Nat×List PV)} {gm:List (Nat×PMap)} {B:Nat→Prop} {Φ:Imm} {μ:Nat→Option Nat} {ω:Nat→Option Who} {w:World} (hgb:∀x∈given,V2 B Φ μ ω w x.1 x.2) (hgm:∀x∈gm,Z6 B Φ μ ω w x.1 x.2) {i:Nat} (hi:i∈X0 given gm):∃g,μ i=some g∧ω g=some (.box i)∧(∀j,Φ g j=none)∧g < w.heap.size:=by
 rcases List.mem_append.1 hi with hi|hi
 ·obtain ⟨x,hx,rfl⟩:=List.mem_map.1 hi
  obtain ⟨g,cur,T,h1,h2,h3,h4,h5,h6,h7⟩:=hgb x hx
  exact ⟨g,h1,h4,h5,(Array.getElem?_eq_some_iff.1 h2).1⟩
 ·obtain ⟨x,hx,rfl⟩:=List.mem_map.1 hi
  obtain ⟨g,h1,h2,h3,h4,h5⟩:=hgm x hx
  refine ⟨g,h1,h3,h4,?_⟩
  obtain ⟨xi,X⟩:=x
  cases X with
  |map es clock=>
   obtain ⟨e0,ents,e1,e2,e3⟩:=h5
   exact (Array.getElem?_eq_some_iff.1 e1).1
  |iter mid since seen last=>
   obtain ⟨gm,e1,e2⟩:=h5
   exact (Array.getElem?_eq_some_iff.1 e2).1
theorem Xai {given:List (Nat×List PV)} {gm:List (Nat×PMap)} {B:Nat→Prop} {Φ:Imm} {μ:Nat→Option Nat} {ω:Nat→Option Who} {w:World} (hgb:∀x∈given,V2 B Φ μ ω w x.1 x.2) (hgm:∀x∈gm,Z6 B Φ μ ω w x.1 x.2) {g:Nat} (h:Z5 μ (X0 given gm) g):∃i∈X0 given gm,μ i=some g∧ω g=some (.box i)∧(∀j,Φ g j=none)∧g < w.heap.size:=by
 obtain ⟨i,hi,hg⟩:=h
 obtain ⟨g',h1,h2⟩:=Xg6 hgb hgm hi
 rw [hg] at h1;cases h1
 exact ⟨i,hi,hg,h2⟩
def Yag (T:Tab) (rs:List ResultVar) (S:List (List PV)→Prop) (given:List (Nat×List PV)) (gm:List (Nat×PMap)):Exit→PS→Come→Prop
 | .ret,σ,κ=>((∃r,V7 T σ rs=some r)∧∀xs,κ=some xs→S xs)∧AllB σ (fun _=>true) given∧AllM σ (fun _=>true) gm
 | .normal,σ,κ=>((∃r,V7 T σ rs=some r)∧∀xs,κ=some xs→S xs)∧AllB σ (fun _=>true) given∧AllM σ (fun _=>true) gm
 |_,_,_=>False
open Classical in
theorem Xdp (hT:T=Kf P) {f:FuncId} {fn:Func} {c:Code} {caps:List PV} {given:List (Nat×List PV)} {gm:List (Nat×PMap)} {A S:List (List PV)→Prop} (hf:P.funcs[f]? = some fn) (hb:fn.body=some c) (hcb:X28 P f=true) (hlow:∀p∈caps,LowI (fun i=>i∈X0 given gm) p) (hno:∀p∈caps,p.ownB=false) (hn:caps.length+1≤fn.ntmps)
  (hbig:∀i∈X0 given gm,1000000≤i) (hok:Xdm given gm)
  (h:∀{Lb:Nat→Prop} (E:Xag) (Φ0:Ent) (W:World) (l:Nat),(∀b,Old Φ0 W b→¬Mix Φ0.imm b)→YOK P E l A Φ0.imm Lb W.heap.size→Φ0.round=none→PWJ E Lb Φ0 W P fn.ntmps c (Yag T fn.results.toList S given gm) (Za (.val (.func (.yield l) #[] #[]) :: caps) given gm) (some [])):Xm9 P f caps given gm A S:=by
 refine ⟨hcb,fun E l Φe μ ω w vs himm hgl hrep hgb hgmm hy hJ=>(callsIn_wide (n:=0)).1 (callsIn_of_wp_marks hf hb trivial ?_)⟩
 have hnd1:(given.map (·.1)).Nodup∧(gm.map (·.1)).Nodup:=by have:=hok.nd;unfold X0 at this;rw [List.nodup_append] at this;exact ⟨this.1,this.2.1⟩
 have hext:∀b o u,Φe b o=some u→b < w.heap.size:=fun b o u e=>World.block_lt_of_cell? _ _ (himm b o u e)
 have hLn:∀g,Z5 μ (X0 given gm) g→∃i∈X0 given gm,μ i=some g∧ω g=some (.box i)∧(∀j,Φe g j=none)∧g < w.heap.size:=fun g hg=>by
  obtain ⟨i,h1,h2,h3,h4,h5⟩:=Xai hgb hgmm hg
  exact ⟨i,h1,h2,h3,h4,h5⟩
 let μ0:Nat→Option Nat:=fun i=>if i∈X0 given gm then μ i else none
 let ω0:Nat→Option Who:=fun g=>if Z5 μ (X0 given gm) g then ω g else none
 let Φ0:Ent:=⟨Φe,fun b=>b < w.heap.size∧Mix Φe b,μ0,hgl,fun g hg=>hg.2,[],none⟩
 have hgiv:∀b,Old Φ0 w b→¬Mix Φ0.imm b:=fun b hb hm=>hb.2 ⟨hb.1,hm⟩
 have hμ:∀i,i∈X0 given gm→∀g,μ i=some g→μ0 i=some g:=fun i hi g e=>by show (if _ then _ else _)=_;rw [if_pos hi];exact e
 have hω0:∀g q,ω0 g=some q→ω g=some q∧Z5 μ (X0 given gm) g:=by
  intro g q e
  have e' : (if Z5 μ (X0 given gm) g then ω g else none)=some q:=e
  split at e'
  ·rename_i hg;exact ⟨e',hg⟩
  ·cases e'
 have hLm:∀g,Z5 μ (X0 given gm) g→Φ0.giv g:=fun g hg=>by
  obtain ⟨i,-,-,-,h4,h5⟩:=hLn g hg
  exact ⟨h5,fun o u e=>by rw [h4] at e;cases e⟩
 have hω:∀i,i∈X0 given gm→∀g,μ i=some g→ω g=some (.box i)→ω0 g=some (.box i)∧Mine Φ0 w g:=by
  intro i hi g e1 e2
  have hg:Z5 μ (X0 given gm) g:=⟨i,hi,e1⟩
  refine ⟨?_, .inr (hLm g hg)⟩
  show (if _ then _ else _)=_
  rw [if_pos hg];exact e2
 have hrep' : RepL Φe μ (.val (.func (.yield l) #[] #[]) :: caps) (.func (.yield l) #[] #[] :: vs):=RepL.cons (.val _ rfl) hrep
 have hargs:(#[.func (.yield l) #[] #[]] ++ vs.toArray:Array Value)=(.func (.yield l) #[] #[] :: vs:List Value).toArray:=by
  apply Array.ext'; simp
 rw [hargs]
 have hlow' : ∀p∈(PV.val (.func (.yield l) #[] #[]) :: caps),LowI (fun i=>i∈X0 given gm) p:=by
  intro p hp
  rcases List.mem_cons.1 hp with rfl|hp
  ·exact .val _
  ·exact hlow p hp
 have hno' : ∀p∈(PV.val (.func (.yield l) #[] #[]) :: caps),p.ownB=false:=by
  intro p hp
  rcases List.mem_cons.1 hp with rfl|hp
  ·rfl
  ·exact hno p hp
 have hg:RelG Φ0 w fn.ntmps Φe μ0 ω0 (Za (.val (.func (.yield l) #[] #[]) :: caps) given gm) { tmps:=(.func (.yield l) #[] #[] :: vs:List Value).toArray ++ Array.replicate (fn.ntmps - (.func (.yield l) #[] #[] :: vs:List Value).toArray.size) undef,defers := [] } w:=by
  refine ⟨Kept.refl _ _,⟨rfl,fun _ e=>by cases e⟩,by simp [hrep.1];omega,himm,fun _ _ _=>rfl,fun t=>?_,fun t n k cs E e=>?_,fun id bs e=>?_,fun id eb em=>?_,fun g p e=>?_,fun id g e=>?_,fun id g e _=>e,fun b o u e=>⟨e,hext b o u e⟩,fun id X e=>?_,fun g p e=>.inr (hLm g (hω0 g p e).2)⟩
  ·simp only [Za]
   cases ht:(PV.val (.func (.yield l) #[] #[]) :: caps)[t]? with
   |none=>exact .undef _
   |some p=>
    obtain ⟨u,hu,hru⟩:=hrep'.get ht
    have hlt:t < (.func (.yield l) #[] #[] :: vs:List Value).length:=(List.getElem?_eq_some_iff.1 hu).1
    have:((.func (.yield l) #[] #[] :: vs:List Value).toArray ++ Array.replicate (fn.ntmps - (.func (.yield l) #[] #[] :: vs:List Value).toArray.size) undef).getD t undef=u:=by
     rw [Array.getD_eq_getD_getElem?,Array.getElem?_append_left (by simpa using hlt)]
     rw [List.getElem?_toArray,hu];rfl
    rw [this]
    exact hru.lowI (hlow' p (Xc ht)) hμ
  ·simp only [Za] at e
   cases ht:(PV.val (.func (.yield l) #[] #[]) :: caps)[t]? with
   |none=>rw [ht] at e;simp at e
   |some p=>
    rw [ht] at e
    simp at e
    have:=hno' p (Xc ht)
    rw [e] at this;simp [PV.ownB] at this
  ·simp only [Za] at e
   rcases Ku given _ hnd1.1 e with h1|⟨-,h1⟩
   ·have hi:id∈X0 given gm:=List.mem_append.2 (.inl (List.mem_map.2 ⟨_,h1,rfl⟩))
    exact (hgb _ h1).lent (S:=fun i=>i∈X0 given gm) hi (hok.lowb _ h1) (hok.nob _ h1) hμ (fun g e1 e2=>hω id hi g e1 e2)
   ·cases h1
  ·simp only [Za] at eb em
   have hi:id∉X0 given gm:=by
    intro hi
    rcases List.mem_append.1 hi with hi|hi
    ·obtain ⟨x,hx,rfl⟩:=List.mem_map.1 hi
     rw [Vi given _ hnd1.1 x hx] at eb;cases eb
    ·obtain ⟨x,hx,rfl⟩:=List.mem_map.1 hi
     rw [Vi gm _ hnd1.2 x hx] at em;cases em
   show (if _ then _ else _)=_
   rw [if_neg hi]
  ·obtain ⟨i,-,-,-,-,h5⟩:=hLn g (hω0 g p e).2
   exact h5
  ·have e' : (if id∈X0 given gm then μ id else none)=some g:=e
   split at e'
   ·rename_i hi;exact hbig id hi
   ·cases e'
  ·simp only [Za] at e
   rcases Ku gm _ hnd1.2 e with h1|⟨-,h1⟩
   ·have hi:id∈X0 given gm:=List.mem_append.2 (.inr (List.mem_map.2 ⟨_,h1,rfl⟩))
    exact (hgmm _ h1).lent (S:=fun i=>i∈X0 given gm) hi (hok.lowm _ h1) (hok.nom _ h1) hμ (fun g e1 e2=>hω id hi g e1 e2)
   ·cases h1
 have hoff:offI Φe ω0=Φe:=by
  funext b o
  by_cases hh:∃p,ω0 b=some p
  ·obtain ⟨p,hp⟩:=hh
   obtain ⟨i,-,-,-,h4,-⟩:=hLn b (hω0 b p hp).2
   rw [h4]
   exact Zb ⟨p,hp⟩
  ·exact Zq fun p e=>hh ⟨p,e⟩
 have hrel:RelJ E (Z5 μ (X0 given gm)) Φ0 w fn.ntmps (some []) (Za (.val (.func (.yield l) #[] #[]) :: caps) given gm) { tmps:=(.func (.yield l) #[] #[] :: vs:List Value).toArray ++ Array.replicate (fn.ntmps - (.func (.yield l) #[] #[] :: vs:List Value).toArray.size) undef,defers := [] } w:=
  ⟨Φ0,w,Φe,μ0,ω0,Z5 μ (X0 given gm),Z4.refl _ _,hg,by rw [hoff];exact hJ,fun g h=>⟨.inr h,by obtain ⟨i,-,-,-,-,h5⟩:=hLn g h;exact h5⟩,fun g p e=>(hω0 g p e).2,fun b o u hb e=>(by have:=hext b o u e;omega),fun b o hb _=>rfl,fun m hm=>(by cases hm),fun g h=>h⟩
 refine wpIn_mono (h E Φ0 w l hgiv hy rfl _ w hrel) ?_
 rintro e a' w0 ⟨σ',κ,hq,hr⟩
 have fin:(((∃r,V7 T σ' fn.results.toList=some r)∧∀xs,κ=some xs→S xs)∧AllB σ' (fun _=>true) given∧AllM σ' (fun _=>true) gm)→LeavesInM (FW none) 0 P fn a'.tmps (fun e w' => ∃v κ K I,e = .returned v∧(∀xs,κ=some xs→S xs)∧E.J κ I K w'∧(∀g,Z5 μ (X0 given gm) g→I g)∧(∀b o u,K b o=some u→w'.cell? ⟨b,o,none⟩=some u) ∧
   (∀b o,b < w.heap.size→¬Z5 μ (X0 given gm) b→K b o=Φe b o)∧(∀b o u,w.heap.size≤b→K b o=some u→I b)∧X4z K∧(∀x∈given,V2 (fun _=>True) K μ ω w' x.1 x.2)∧(∀x∈gm,Z6 (fun _=>True) K μ ω w' x.1 x.2)) a'.defers .returning w0:=by
  rintro ⟨⟨⟨r,hpr⟩,hS⟩,hAb,hAm⟩
  obtain ⟨Φ1,W1,Φ,μ',ω',I,hl,hg,hJ,h1,h2,h3,h4,h5,h6⟩:=hr
  obtain ⟨ms,hd1,hd2,hd3,hg'⟩:=RelG.shut (Φ0:=Φ0) rfl rfl hl hg
  rw [hd1]
  refine X10 ms w0 hd2 hd3 ?_
  obtain ⟨v,r1,r2,r3⟩:=X2a hT hg' hpr
  have hkm:∀i,i∈X0 given gm→(σ'.b i≠none∨σ'.m i≠none)→∃g,μ i=some g∧ω g=some (.box i)∧μ' i=some g:=by
   intro i hi hk
   obtain ⟨g,e1,e2,-⟩:=Xg6 hgb hgmm hi
   exact ⟨g,e1,e2,hg.kmu i g (by rw [hl.mu];exact hμ i hi g e1) hk⟩
  have hKn:∀i∈X0 given gm,σ'.b i≠none∨σ'.m i≠none:=by
   intro i hi
   rcases List.mem_append.1 hi with hi|hi
   ·obtain ⟨x,hx,rfl⟩:=List.mem_map.1 hi
    left;rw [(hAb.mem x hx).2];simp
   ·obtain ⟨x,hx,rfl⟩:=List.mem_map.1 hi
    right;rw [(hAm.mem x hx).2];simp
  have hb1:∀i,i∈X0 given gm→∀g,μ' i=some g→μ i=some g:=by
   intro i hi g e
   obtain ⟨g',e1,e2,e3⟩:=hkm i hi (hKn i hi)
   rw [e] at e3;cases e3;exact e1
  have hb2:∀i,i∈X0 given gm→∀g,μ' i=some g→ω' g=some (.box i)→ω g=some (.box i)∧True:=by
   intro i hi g e _
   obtain ⟨g',e1,e2,e3⟩:=hkm i hi (hKn i hi)
   rw [e] at e3;cases e3;exact ⟨e2,trivial⟩
  refine ⟨v,r1,v,κ,Φ,I,rfl,hS,E.step hJ ?_ (fun g hh=>.inl hh) (fun b o u e _=>(X53.1 e).2) hg'.imm,h6,hg'.imm,h4,h3,hg'.glob,fun x hx=>?_,fun x hx=>?_⟩
  ·obtain ⟨k1,k2,k3⟩:=Xl5 ms w0
   refine ⟨k1,k2,k3,Nat.le_of_eq (X7s ms w0).symm,fun k hk=>X9j ms w0 k fun hm=>hk.2 (h5 k ?_)⟩
   obtain ⟨ms',e1,-,-⟩:=hl.marks
   have e2:Φ1.marks=ms':=by rw [e1];exact List.append_nil _
   have e3:=hg.defers.1
   rw [hd1,e2] at e3
   have:ms=ms':=by
    have hinj:∀(l l' : List Nat),l.map X7u=l'.map X7u→l=l':=by
     intro l
     induction l with
     |nil=>intro l' e;cases l' with
      |nil=>rfl
      |cons=>cases e
     |cons x l ih=>intro l' e;cases l' with
      |nil=>cases e
      |cons y l' =>
       simp only [List.map_cons,List.cons.injEq] at e
       have hxy:x=y:=by
        have:=e.1
        simp only [X7u,Deferred.mk.injEq,Target.collected.injEq] at this
        exact this.1
       rw [hxy,ih l' e.2]
    exact hinj _ _ e3
   rw [e2,←this];exact hm
  ·have hi:x.1∈X0 given gm:=List.mem_append.2 (.inl (List.mem_map.2 ⟨x,hx,rfl⟩))
   exact (hg'.box x.1 x.2 (hAb.mem x hx).2).lent (S:=fun i=>i∈X0 given gm) hi (hok.lowb x hx) (hok.nob x hx) hb1 (hb2 x.1 hi)
  ·have hi:x.1∈X0 given gm:=List.mem_append.2 (.inr (List.mem_map.2 ⟨x,hx,rfl⟩))
   exact (hg'.map x.1 x.2 (hAm.mem x hx).2).lent (S:=fun i=>i∈X0 given gm) hi (hok.lowm x hx) (hok.nom x hx) hb1 (hb2 x.1 hi)
 cases e with
 |ret=>exact fin hq
 |normal=>exact fin hq
 |_=>exact hq.elim
theorem PWJ.mono {κ:Come} {σ:PS} {c:Code} {Q Q' : Exit→PS→Come→Prop} {M:Nat} {E:Xag} {Lb:Nat→Prop} {Φ0:Ent} {W:World} (h:PWJ E Lb Φ0 W P M c Q σ κ) (hq:∀e σ κ,Q e σ κ→Q' e σ κ):PWJ E Lb Φ0 W P M c Q' σ κ:=fun a w hr=>wpIn_mono (h a w hr) fun e a' w' ⟨σ',κ',h1,h2⟩=>⟨σ',κ',hq _ _ _ h1,h2⟩
theorem Xgb (hT:T=Kf P) {f:FuncId} {fn:Func} {c:Code} {caps:List PV} {A S:List (List PV)→Prop} (hf:P.funcs[f]? = some fn) (hb:fn.body=some c) (hcb:X28 P f=true) (hlow:∀p∈caps,Low p) (hno:∀p∈caps,p.ownB=false) (hn:caps.length+1≤fn.ntmps)
  (h:∀{Lb:Nat→Prop} (E:Xag) (Φ0:Ent) (W:World) (l:Nat),(∀b,Old Φ0 W b→¬Mix Φ0.imm b)→YOK P E l A Φ0.imm Lb W.heap.size→Φ0.round=none→PWJ E Lb Φ0 W P fn.ntmps c (RetJ T fn.results.toList S) (Xs2 (.val (.func (.yield l) #[] #[]) :: caps)) (some [])):Xsy P f caps A S:=
 Xdp hT hf hb hcb (fun p hp=>(hlow p hp).lowI) hno hn (by simp [X0]) Xdm.nil fun E Φ0 W l h1 h2 h3=>(h E Φ0 W l h1 h2 h3).mono fun e σ κ hq=>by
  cases e with
  |ret=>exact ⟨hq,trivial,trivial⟩
  |normal=>exact ⟨hq,trivial,trivial⟩
  |_=>exact hq
end
section
open Go.RowKit
def Xte (args:List PV):Prop:=∀(i n k:Nat) (cs:List PV) (E:TypeId),args[i]? = some (PV.sl n k cs (some E))→cs = []∨∃(j:Nat) (c:PV),cs[j]? = some c∧noI64 c=true
theorem Xrn {Φ:Imm} {μ:Nat→Option Nat} {n k g cap:Nat} {cs:List PV} {own:Option TypeId} (hr:Rep Φ μ (.sl n k cs own) (.slice (some ⟨g,0,none⟩) n cap)) (hf:∀j,n * k≤j→Φ g j=none) (hc:cs = []∨∃(j:Nat) (c:PV),cs[j]? = some c∧noI64 c=true):Mix Φ g:=by
 intro o u e
 obtain ⟨a,b,off,cap',us,hv,-,-,q3,q4,q5,q6⟩:=hr.sl_inv
 have ho:o < n * k:=by
  rcases Nat.lt_or_ge o (n * k) with h|h
  ·exact h
  ·rw [hf o h] at e;cases e
 have hn:0 < n:=by
  rcases Nat.eq_zero_or_pos n with h|h
  ·subst h;simp at ho
  ·exact h
 cases hv
 have h4:=q4 hn
 cases h4
 rcases hc with rfl|⟨j,c,hj,hc⟩
 ·simp at q3;omega
 ·have hjl:j < cs.length:=(List.getElem?_eq_some_iff.1 hj).1
  have h5:=q5 j hjl
  rw [Nat.zero_add] at h5
  exact ⟨j,_,h5,(q6 j c hj).noI64 hc⟩
end
section
open Go.RowKit
variable {P:Program} {T:Tab}
open Classical in
theorem X9t (hT:T=Kf P) {f:FuncId} {fn:Func} {c:Code} {args:List PV} {given res:List (Nat×List PV)} {gm rm:List (Nat×PMap)} {r:PV} (hf:P.funcs[f]? = some fn) (hb:fn.body=some c) (hcb:X28 P f=true) (hmx:Xte args) (hn:args.length≤fn.ntmps)
  (hbig:∀i∈X0 given gm,1000000≤i) (hnd:(X0 given gm).Nodup) (hok:HOk args given gm r res rm) (h:PW P fn.ntmps c (RetH T fn.results.toList r res rm) (Za args given gm))
  (hfb:GivB given:=by (first|assumption|(repeat (first|exact Xn6|exact Xrt|exact Xrl _|exact rC_owns _|refine Xjd ?_ ?_|refine Xo1 ?_ ?_|exact X9n rfl|exact X8v _ _|assumption)))) (hfm:GivM gm:=by (first|assumption|(repeat (first|exact Xn2|exact Xsu _|refine Xi0 ?_ ?_)))):X27 P f args given gm r res rm:=by
 refine ⟨hcb,fun Φ μ ω w vs himm hgl hrep hgb hgmm hlt hown=>(callsIn_wide (n:=0)).1 (callsIn_of_wp_marks hf hb trivial ?_)⟩
 have hnd1:(given.map (·.1)).Nodup∧(gm.map (·.1)).Nodup:=by unfold X0 at hnd;rw [List.nodup_append] at hnd;exact ⟨hnd.1,hnd.2.1⟩
 let μ0:Nat→Option Nat:=fun i=>if i∈X0 given gm then μ i else none
 let gv:Nat→Prop:=fun g=>GivO ω (X0 given gm) args g∧Mix Φ g
 let ω0:Nat→Option Who:=fun g=>if gv g then ω g else none
 have hμ:∀i,i∈X0 given gm→∀g,μ i=some g→μ0 i=some g:=fun i hi g e=>by show (if _ then _ else _)=_;rw [if_pos hi];exact e
 have hω:∀i,i∈X0 given gm→∀q,OfId i q→∀g,ω g=some q→(∀o u,Φ g o=some u→Xgj u=false)→ω0 g=some q∧(w.heap.size≤g∨gv g):=by
  intro i hi q hq g e hno
  have hgv:gv g:=⟨.inl ⟨i,hi,q,hq,e⟩,Xqo hno⟩
  refine ⟨?_, .inr hgv⟩
  show (if _ then _ else _)=_
  rw [if_pos hgv];exact e
 have hω' : ∀g q,ω0 g=some q→ω g=some q∧gv g:=by
  intro g q e
  have e' : (if gv g then ω g else none)=some q:=e
  split at e'
  ·rename_i hg;exact ⟨e',hg⟩
  ·cases e'
 have hval:∀(t:Nat) u,vs[t]? = some u→(vs.toArray ++ Array.replicate (fn.ntmps - vs.toArray.size) undef).getD t undef=u:=by
  intro t u hu
  have hlt:t < vs.length:=(List.getElem?_eq_some_iff.1 hu).1
  rw [Array.getD_eq_getD_getElem?,Array.getElem?_append_left (by simpa using hlt)]
  simp [hu]
 have hrel:Rel ⟨Φ,gv,μ0,hgl,fun g h=>h.2,[],none⟩ w fn.ntmps (Za args given gm) { tmps:=vs.toArray ++ Array.replicate (fn.ntmps - vs.toArray.size) undef,defers := [] } w:=by
  refine ⟨Φ,μ0,ω0,Kept.refl _ _,⟨rfl,fun _ e=>by cases e⟩,by simp [hrep.1];omega,himm,fun _ _ _=>rfl,fun t=>?_,fun t n k cs E e=>?_,fun id bs e=>?_,fun id eb em=>?_,fun g p e=>hlt g p (hω' g p e).1,fun id g e=>?_,fun id g e _=>e,fun b o u e=>⟨e,World.block_lt_of_cell? _ _ (himm b o u e)⟩,fun id X e=>?_,fun g p e=>.inr (hω' g p e).2⟩
  ·simp only [Za]
   cases ht:args[t]? with
   |none=>exact .undef _
   |some p=>
    obtain ⟨u,hu,hru⟩:=hrep.get ht
    rw [hval t u hu]
    exact hru.lowI (hok.ha p (Xc ht)) hμ
  ·simp only [Za] at e
   cases ht:args[t]? with
   |none=>rw [ht] at e;simp at e
   |some p=>
    rw [ht] at e
    simp at e
    subst e
    obtain ⟨u,hu,hru⟩:=hrep.get ht
    rw [hval t u hu]
    rcases hown t n k cs E u ht hu with q|⟨g,cap,cur,rfl,q2,q3,q4,q5,q6,q7,q8⟩|q
    ·exact .inl q
    ·have hgv:gv g:=⟨.inr ⟨t,_,ht,rfl,q7⟩,Xrn hru q8.2 (hmx t n k cs E ht)⟩
     refine .inr (.inl ⟨g,cap,cur,rfl, .inr hgv,q3,q4,q5,q6,?_,q8⟩)
     show (if _ then _ else _)=_
     rw [if_pos hgv];exact q7
    ·exact .inr (.inr q)
  ·simp only [Za] at e
   rcases Ku given _ hnd1.1 e with h1|⟨-,h1⟩
   ·have hi:id∈X0 given gm:=List.mem_append.2 (.inl (List.mem_map.2 ⟨_,h1,rfl⟩))
    exact (hgb _ h1).lowJ hi (hok.hg _ h1) (hfb _ h1) hμ (hω id hi)
   ·cases h1
  ·simp only [Za] at eb em
   have hi:id∉X0 given gm:=by
    intro hi
    rcases List.mem_append.1 hi with hi|hi
    ·obtain ⟨x,hx,rfl⟩:=List.mem_map.1 hi
     rw [Vi given _ hnd1.1 x hx] at eb;cases eb
    ·obtain ⟨x,hx,rfl⟩:=List.mem_map.1 hi
     rw [Vi gm _ hnd1.2 x hx] at em;cases em
   show (if _ then _ else _)=_
   rw [if_neg hi]
  ·have e' : (if id∈X0 given gm then μ id else none)=some g:=e
   split at e'
   ·rename_i hi;exact hbig id hi
   ·cases e'
  ·simp only [Za] at e
   rcases Ku gm _ hnd1.2 e with h1|⟨-,h1⟩
   ·have hi:id∈X0 given gm:=List.mem_append.2 (.inr (List.mem_map.2 ⟨_,h1,rfl⟩))
    exact (hgmm _ h1).lowJ hi (hok.hm _ h1) (hfm _ h1) hμ (hω id hi)
   ·cases h1
 refine wpIn_mono (h _ w _ w hrel) ?_
 rintro e a' w0 ⟨σ',Φ1,W1,hq,hlat,Φ',μ',ω',hg0⟩
 obtain ⟨ms,hd1,hd2,hd3,hg⟩:=RelG.shut rfl rfl hlat hg0
 generalize hw' : shut w0 ms=w' at hg
 have fin:(∃r',V7 T σ' fn.results.toList=some r'∧Weak r' r∧AllW σ' res∧AllM σ' (fun _=>true) rm)→LeavesInM (FW none) 0 P fn a'.tmps (Y7h Φ μ ω w (X0 given gm) args r res rm) a'.defers .returning w0:=by
  rintro ⟨r',hpr,hwk,hAb,hAm⟩
  rw [hd1]
  refine X10 ms w0 hd2 hd3 ?_
  rw [hw']
  obtain ⟨v,r1,r2,r3⟩:=X2a hT hg hpr
  refine ⟨v,r1,?_⟩
  -- the slot of the result
  obtain ⟨s,hs⟩:∃s:Nat,r.ownB=true→r' = r∧r=σ'.t s∧v=a'.tmps.getD s undef:=by
   by_cases ho:r.ownB=true
   ·have e1:=hwk.2 ho
    obtain ⟨t,e2,e3⟩:=r3 (by rw [←e1];exact ho)
    exact ⟨t,fun _=>⟨e1.symm,by rw [e1];exact e2,e3⟩⟩
   ·exact ⟨0,fun h=>absurd h ho⟩
  let μ2:Nat→Option Nat:=fun i=>if i∈X0 res rm then μ' i else none
  let ω2:Nat→Option Who:=fun g=>match ω' g with
   |some (.tmp t)=>if t=s∧r.ownB=true then some (.tmp 0) else none
   |x=>x
  have hμ2:∀i,i∈X0 res rm→∀g,μ' i=some g→μ2 i=some g:=fun i hi g e=>by show (if _ then _ else _)=_;rw [if_pos hi];exact e
  have hnew:∀g p,ω' g=some p→NewO ω w (X0 given gm) args g:=fun g p e=>(hg.mine g p e).imp id (fun h=>h.1)
  have hω2:∀i q,OfId i q→∀g,ω' g=some q→ω2 g=some q∧NewO ω w (X0 given gm) args g:=by
   intro i q hq g e
   refine ⟨?_,hnew g q e⟩
   show (match ω' g with|some (.tmp t)=>_|x=>x)=_
   rw [e]
   rcases hq with rfl|⟨j,rfl⟩<;>rfl
  have hlt2:∀g p,ω2 g=some p→g < w'.heap.size∧NewO ω w (X0 given gm) args g:=by
   intro g p e
   have e' : (match ω' g with|some (.tmp t)=>if t=s∧r.ownB=true then some (.tmp 0) else none|x=>x)=some p:=e
   cases hw:ω' g with
   |none=>rw [hw] at e'; cases e'
   |some q=>exact ⟨hg.lt g q hw,hnew g q hw⟩
  have hsubR:∀i∈X0 given gm,i∈X0 res rm:=by
   intro i hi
   rcases List.mem_append.1 hi with hi|hi
   ·exact List.mem_append.2 (.inl (hok.s1 i hi))
   ·exact List.mem_append.2 (.inr (hok.s2 i hi))
  refine ⟨v,Φ',μ2,ω2,rfl,(hwk.1 _ _ _ r2).lowI hok.hr hμ2,hg.imm,fun b o u e=>(hg.ext b o u e).1,fun b o hb hng=>hg.old b o ⟨hb,fun h=>hng h.1⟩,hg.below.mono fun k hk=>⟨hk.1,fun h=>hk.2 h.1⟩,fun i hi=>?_,fun i g e=>?_,fun x hx=>?_,fun x hx=>?_,hlt2,fun n k cs E e=>?_⟩
  ·have hir:=hsubR i hi
   have hsome:∃g,μ i=some g:=by
    rcases List.mem_append.1 hi with h1|h1
    ·obtain ⟨x,hx,rfl⟩:=List.mem_map.1 h1
     obtain ⟨g,_,_,h2,_⟩:=hgb x hx;exact ⟨g,h2⟩
    ·obtain ⟨x,hx,rfl⟩:=List.mem_map.1 h1
     obtain ⟨g,h2,_⟩:=hgmm x hx;exact ⟨g,h2⟩
   obtain ⟨g,hgi⟩:=hsome
   rw [hgi]
   refine hμ2 i hir g (hg.kmu i g (hμ i hi g hgi) ?_)
   rcases List.mem_append.1 hi with h1|h1
   ·left
    obtain ⟨x,hx,rfl⟩:=List.mem_map.1 (hok.s1 i h1)
    obtain ⟨bs,hbs,-⟩:=hAb.mem x hx
    rw [hbs];simp
   ·right
    obtain ⟨x,hx,rfl⟩:=List.mem_map.1 (hok.s2 i h1)
    rw [(hAm.mem x hx).2];simp
  ·have e' : (if i∈X0 res rm then μ' i else none)=some g:=e
   split at e'
   ·assumption
   ·cases e'
  ·obtain ⟨bs,hbs,hw⟩:=hAb.mem x hx
   have hi:x.1∈X0 res rm:=List.mem_append.2 (.inl (List.mem_map.2 ⟨x,hx,rfl⟩))
   exact ((hg.box x.1 bs hbs).weak hw).lowI hi (hok.hres x hx) hμ2 (hω2 x.1)
  ·have hi:x.1∈X0 res rm:=List.mem_append.2 (.inr (List.mem_map.2 ⟨x,hx,rfl⟩))
   exact (hg.map x.1 x.2 (hAm.mem x hx).2).lowI hi (hok.hrm x hx) hμ2 (hω2 x.1)
  ·have hro:r.ownB=true:=by rw [e];rfl
   obtain ⟨e1,e2,e3⟩:=hs hro
   rw [e3]
   rcases hg.own s n k cs E (by rw [←e2,e]) with ho|⟨g,cap,cur,k1,k2,k3,k4,k5,k6,k7,k8⟩|ho
   ·exact .inl ho
   ·refine .inr (.inl ⟨g,cap,cur,k1,hnew g _ k7,k3,k4,k5,k6,?_,k8⟩)
    show (match ω' g with|some (.tmp t)=>_|x=>x)=_
    rw [k7]
    simp [hro]
   ·exact .inr (.inr ho)
 cases e with
 |ret=>exact fin hq
 |normal=>exact fin hq
 |_=>exact hq.elim
end
section
open Go.RowKit
open Classical in
theorem X27.ren {P:Program} {f:FuncId} {args args' : List PV} {given given' res res' : List (Nat×List PV)} {gm gm' rm rm' : List (Nat×PMap)} {r r' : PV} (h:X27 P f args given gm r res rm) (ρ:Nat→Nat) (hs1:∀i∈given.map (·.1),i∈res.map (·.1)) (hs2:∀i∈gm.map (·.1),i∈rm.map (·.1))
  (hinj:∀i∈X0 res rm,∀j∈X0 res rm,ρ i=ρ j→i=j) (ha:RenL ρ (fun i=>i∈X0 given gm) args args') (hg:RenB ρ (fun i=>i∈X0 given gm) given given') (hm:Kc ρ (fun i=>i∈X0 given gm) gm gm')
  (hr:Ren ρ (fun i=>i∈X0 res rm) r r') (hres:RenB ρ (fun i=>i∈X0 res rm) res res') (hrm:Kc ρ (fun i=>i∈X0 res rm) rm rm'):X27 P f args' given' gm' r' res' rm':=by
 refine ⟨h.1,fun Φ μ ω w vs himm hgl hrep hgb hgmm hlt hown=>?_⟩
 have hsub:∀i∈X0 given gm,i∈X0 res rm:=by
  intro i hi
  rcases List.mem_append.1 hi with hi|hi
  ·exact List.mem_append.2 (.inl (hs1 i hi))
  ·exact List.mem_append.2 (.inr (hs2 i hi))
 obtain ⟨g1,g2,g3⟩:=hg.mem
 obtain ⟨m1,m2,m3⟩:=hm.mem
 obtain ⟨b1,b2,b3⟩:=hres.mem
 obtain ⟨c1,c2,c3⟩:=hrm.mem
 have hids:X0 given' gm' = (X0 given gm).map ρ:=by simp only [X0,g3,m3,List.map_append]
 have hrids:X0 res' rm' = (X0 res rm).map ρ:=by simp only [X0,b3,c3,List.map_append]
 let μ1:Nat→Option Nat:=fun i=>if i∈X0 given gm then μ (ρ i) else none
 let ω1:Nat→Option Who:=fun g=>if hh:∃q,((∃i∈X0 given gm,OfId i q)∨∃t,q=Who.tmp t)∧ω g=some (renW ρ q) then some hh.choose else none
 have winj:∀q q',((∃i∈X0 given gm,OfId i q)∨∃t,q=Who.tmp t)→((∃i∈X0 given gm,OfId i q')∨∃t,q' = Who.tmp t)→renW ρ q=renW ρ q'→q=q':=by
  rintro q q' (⟨i,hi,hq⟩|⟨t,rfl⟩) (⟨j,hj,hq'⟩|⟨t',rfl⟩) e
  ·rcases hq with rfl|⟨x,rfl⟩<;>rcases hq' with rfl|⟨y,rfl⟩
   ·simp only [renW,Who.box.injEq] at e;rw [hinj i (hsub i hi) j (hsub j hj) e]
   ·simp [renW] at e
   ·simp [renW] at e
   ·simp only [renW,Who.cell.injEq] at e;rw [hinj i (hsub i hi) j (hsub j hj) e.1,e.2]
  ·rcases hq with rfl|⟨x,rfl⟩<;>simp [renW] at e
  ·rcases hq' with rfl|⟨y,rfl⟩<;>simp [renW] at e
  ·simpa [renW] using e
 have hω1:∀g q,((∃i∈X0 given gm,OfId i q)∨∃t,q=Who.tmp t)→(ω1 g=some q↔ω g=some (renW ρ q)):=by
  intro g q hq
  constructor
  ·intro e
   have e' : (if hh:∃q,((∃i∈X0 given gm,OfId i q)∨∃t,q=Who.tmp t)∧ω g=some (renW ρ q) then some hh.choose else none)=some q:=e
   split at e'
   ·rename_i hh
    have:=hh.choose_spec.2
    cases e'
    exact this
   ·cases e'
  ·intro e
   show (if hh:_ then _ else _)=_
   have hh:∃q,((∃i∈X0 given gm,OfId i q)∨∃t,q=Who.tmp t)∧ω g=some (renW ρ q):=⟨q,hq,e⟩
   rw [dif_pos hh]
   have h2:=hh.choose_spec
   have h3:some (renW ρ q)=some (renW ρ hh.choose):=e.symm.trans h2.2
   simp only [Option.some.injEq] at h3
   rw [winj _ _ h2.1 hq h3.symm]
 have hω1' : ∀g q,ω1 g=some q→((∃i∈X0 given gm,OfId i q)∨∃t,q=Who.tmp t)∧ω g=some (renW ρ q):=by
  intro g q e
  have e' : (if hh:∃q,((∃i∈X0 given gm,OfId i q)∨∃t,q=Who.tmp t)∧ω g=some (renW ρ q) then some hh.choose else none)=some q:=e
  split at e'
  ·rename_i hh
   have:=hh.choose_spec
   cases e'
   exact this
  ·cases e'
 have hgiv0:∀g,Giv ω1 (X0 given gm) g↔Giv ω (X0 given' gm') g:=by
  intro g
  constructor
  ·rintro ⟨i,hi,q,hq,e⟩
   refine ⟨ρ i,by rw [hids];exact List.mem_map.2 ⟨i,hi,rfl⟩,renW ρ q,?_,(hω1' g q e).2⟩
   rcases hq with rfl|⟨j,rfl⟩
   ·exact .inl rfl
   ·exact .inr ⟨j,rfl⟩
  ·rintro ⟨i',hi0,q',hq,e⟩
   rw [hids] at hi0
   obtain ⟨i,hi,rfl⟩:=List.mem_map.1 hi0
   rcases hq with rfl|⟨j,rfl⟩
   ·exact ⟨i,hi, .box i, .inl rfl,(hω1 g _ (.inl ⟨i,hi, .inl rfl⟩)).2 e⟩
   ·exact ⟨i,hi, .cell i j, .inr ⟨j,rfl⟩,(hω1 g _ (.inl ⟨i,hi, .inr ⟨j,rfl⟩⟩)).2 e⟩
 have hag:∀(i n k:Nat) (cs:List PV) (E:TypeId),args[i]? = some (PV.sl n k cs (some E))↔args'[i]? = some (PV.sl n k cs (some E)):=by
  intro i n k cs E
  constructor
  ·intro e
   obtain ⟨q,hq⟩:=Yh ha.1.symm e
   have:=(ha.2 i _ q e hq).own (.inl rfl)
   rw [this];exact hq
  ·intro e
   obtain ⟨q,hq⟩:=Yh ha.1 e
   have:=(ha.2 i q _ hq e).own (.inr rfl)
   rw [←this];exact hq
 have hgiv:∀g,GivO ω1 (X0 given gm) args g↔GivO ω (X0 given' gm') args' g:=by
  intro g
  constructor
  ·rintro (h1|⟨i,p,h1,h2,h3⟩)
   ·exact .inl ((hgiv0 g).1 h1)
   ·obtain ⟨q,hq⟩:=Yh ha.1.symm h1
    have e:=(ha.2 i p q h1 hq).own (.inl h2)
    exact .inr ⟨i,q,hq,by rw [←e];exact h2,(hω1' g _ h3).2⟩
  ·rintro (h1|⟨i,p,h1,h2,h3⟩)
   ·exact .inl ((hgiv0 g).2 h1)
   ·obtain ⟨q,hq⟩:=Yh ha.1 h1
    have e:=(ha.2 i q p hq h1).own (.inr h2)
    exact .inr ⟨i,q,hq,by rw [e];exact h2,(hω1 g (.tmp i) (.inr ⟨i,rfl⟩)).2 h3⟩
 have hμ1:∀i,i∈X0 given gm→∀g,μ (ρ i)=some g→μ1 i=some g:=fun i hi g e=>by show (if _ then _ else _)=_;rw [if_pos hi];exact e
 have hrep1:RepL Φ μ1 args vs:=⟨by rw [hrep.1,ha.1],fun j p u hp hu=>by
  obtain ⟨q,hq⟩:=Yh ha.1.symm hp
  exact (ha.2 j p q hp hq).bwd hμ1 (hrep.2 j q u hq hu)⟩
 refine (h.2 Φ μ1 ω1 w vs himm hgl hrep1 (fun x hx=>?_) (fun x hx=>?_) (fun g p e=>hlt g _ (hω1' g p e).2) (fun i n k cs E v h1 h2=>?_)).mono ?_
 ·obtain ⟨y,hy,e1,e2⟩:=g1 x hx
  have hi:x.1∈X0 given gm:=List.mem_append.2 (.inl (List.mem_map.2 ⟨x,hx,rfl⟩))
  have:=hgb y hy
  rw [e1] at this
  exact this.bwd hi e2 hμ1 (fun q hq g e=>⟨(hω1 g q (.inl ⟨x.1,hi,hq⟩)).2 e,fun _=>trivial⟩)
 ·obtain ⟨y,hy,e1,e2⟩:=m1 x hx
  have hi:x.1∈X0 given gm:=List.mem_append.2 (.inr (List.mem_map.2 ⟨x,hx,rfl⟩))
  have:=hgmm y hy
  rw [e1] at this
  exact this.bwd hi e2 hμ1 (fun q hq g e=>⟨(hω1 g q (.inl ⟨x.1,hi,hq⟩)).2 e,fun _=>trivial⟩)
 ·rcases hown i n k cs E v ((hag i n k cs E).1 h1) h2 with q|⟨g,cap,cur,q1,q2,q3,q4,q5,q6,q7,q8⟩|q
  ·exact .inl q
  ·exact .inr (.inl ⟨g,cap,cur,q1,trivial,q3,q4,q5,q6,(hω1 g (.tmp i) (.inr ⟨i,rfl⟩)).2 q7,q8⟩)
  ·exact .inr (.inr q)
 rintro e w' ⟨v,Φ',μ',ω',rfl,k1,k2,k3,k4,k5,k6,k7,k8,k9,k10,k11⟩
 let μ2:Nat→Option Nat:=fun i' => if hh:∃i∈X0 res rm,ρ i=i' then μ' hh.choose else none
 have hμ2:∀i,i∈X0 res rm→μ2 (ρ i)=μ' i:=by
  intro i hi
  show (if hh:_ then _ else _)=_
  have hh:∃j∈X0 res rm,ρ j=ρ i:=⟨i,hi,rfl⟩
  rw [dif_pos hh]
  have:=hh.choose_spec
  rw [hinj _ this.1 _ hi this.2]
 have hμ2' : ∀i,i∈X0 res rm→∀g,μ' i=some g→μ2 (ρ i)=some g:=fun i hi g e=>by rw [hμ2 i hi];exact e
 let ω2:Nat→Option Who:=fun g=>(ω' g).map (renW ρ)
 have hnew:∀g,NewO ω1 w (X0 given gm) args g↔NewO ω w (X0 given' gm') args' g:=fun g=>or_congr Iff.rfl (hgiv g)
 refine ⟨v,Φ',μ2,ω2,rfl,hr.fwd hμ2' k1,k2,k3,fun b o hb hng=>k4 b o hb (fun hh=>hng ((hgiv b).1 hh)),k5.mono fun k hk=>⟨hk.1,fun hh=>hk.2 ((hgiv k).1 hh)⟩,fun i' hi' => ?_,fun i' g e=>?_,fun y hy=>?_,fun y hy=>?_,fun g p e=>?_,fun n k cs E e=>?_⟩
 ·rw [hids] at hi'
  obtain ⟨i,hi,rfl⟩:=List.mem_map.1 hi'
  rw [hμ2 i (hsub i hi),k6 i hi]
  show (if _ then _ else _)=_
  rw [if_pos hi]
 ·have e' : (if hh:∃i∈X0 res rm,ρ i=i' then μ' hh.choose else none)=some g:=e
  split at e'
  ·rename_i hh
   obtain ⟨i,hi,rfl⟩:=hh
   rw [hrids];exact List.mem_map.2 ⟨i,hi,rfl⟩
  ·cases e'
 ·obtain ⟨x,hx,e1,e2⟩:=b2 y hy
  have hi:x.1∈X0 res rm:=List.mem_append.2 (.inl (List.mem_map.2 ⟨x,hx,rfl⟩))
  rw [e1]
  exact (k8 x hx).fwd hi e2 hμ2' (fun q hq g e=>⟨by show (ω' g).map _=_;rw [e];rfl,fun hb=>(hnew g).1 hb⟩)
 ·obtain ⟨x,hx,e1,e2⟩:=c2 y hy
  have hi:x.1∈X0 res rm:=List.mem_append.2 (.inr (List.mem_map.2 ⟨x,hx,rfl⟩))
  rw [e1]
  exact (k9 x hx).fwd hi e2 hμ2' (fun q hq g e=>⟨by show (ω' g).map _=_;rw [e];rfl,fun hb=>(hnew g).1 hb⟩)
 ·have e' : (ω' g).map (renW ρ)=some p:=e
  obtain ⟨q,hq,-⟩:=Option.map_eq_some_iff.1 e'
  exact ⟨(k10 g q hq).1,(hnew g).1 (k10 g q hq).2⟩
 ·have hre:r=r':=hr.own (.inr (by rw [e];rfl))
  rcases k11 n k cs E (by rw [hre,e]) with q|⟨g',cap,cur',q1,q2,q3,q4,q5,q6,q7,q8⟩|q
  ·exact .inl q
  ·exact .inr (.inl ⟨g',cap,cur',q1,(hnew g').1 q2,q3,q4,q5,q6,by show (ω' g').map _=_;rw [q7];rfl,q8⟩)
  ·exact .inr (.inr q)
theorem X27.at {P:Program} {f:FuncId} {args args' : List PV} {given given' res res' : List (Nat×List PV)} {gm gm' rm rm' : List (Nat×PMap)} {r r' : PV} (h:X27 P f args given gm r res rm) (L:List (Nat×Nat)) (hd:(L.map (·.2)).Nodup) (hs:∀i∈X0 res rm,i∈L.map (·.1)) (hs1:∀i∈given.map (·.1),i∈res.map (·.1)) (hs2:∀i∈gm.map (·.1),i∈rm.map (·.1))
  (ha:RenL (renN L) (fun i=>i∈X0 given gm) args args') (hg:RenB (renN L) (fun i=>i∈X0 given gm) given given') (hm:Kc (renN L) (fun i=>i∈X0 given gm) gm gm')
  (hr:Ren (renN L) (fun i=>i∈X0 res rm) r r') (hres:RenB (renN L) (fun i=>i∈X0 res rm) res res') (hrm:Kc (renN L) (fun i=>i∈X0 res rm) rm rm'):X27 P f args' given' gm' r' res' rm':=
 h.ren (renN L) hs1 hs2 (fun i hi j hj e=>Xns hd i (hs i hi) j (hs j hj) e) ha hg hm hr hres hrm
end
section
open Go.RowKit
variable {P:Program} {T:Tab} {σ:PS} {o:Oper} {i base:Nat} {ops:Array Oper} {ok:Nat→Nat→Bool} {rest:List (Nat×Oper)} {K:PS→Prop}
theorem X5.takeO {d s n k:Nat} {cs:List PV} {E:TypeId} (hg:Xk ops σ o=some true) (hok:∀j id,ok j id=true) (hd:o.dst=some d) (hop:o.op = .move (.tmp s)) (hs:σ.t s = .sl n k cs (some E))
  (kn:X5 P T ops base ok rest K ((σ.put s (.sl n k cs none)).put d (.sl n k cs (some E)))):X5 P T ops base ok ((i,o) :: rest) K σ:=by
 refine X5.sem (E:=⟨.sl n k cs (some E),[],some s,[]⟩) hg hok ?_ ?_
 ·intro Φ0 W M a w hM hrel
  obtain ⟨Φ,μ,ω,hr⟩:=hrel
  have:=Xcg (P:=P) hr o hd (hM d hd) (.tmp s) (by simp only [execOp,hop,Sem.run_pure])
  rw [X75,hs] at this
  simpa [PV.ownB] using this
 ·rw [hd]
  have e:(σ.t s).bare = .sl n k cs none:=by rw [hs];rfl
  simp only [PS.app,e,List.foldl_nil]
  exact kn
end
section
open Go.RowKit
variable {Φ0:Ent} {W:World} {M:Nat} {Φ:Imm} {μ:Nat→Option Nat} {ω:Nat→Option Who} {σ:PS} {a:Act} {w:World} {P:Program} {T:Tab}
theorem RelG.rebaseA (h:RelG Φ0 W M Φ μ ω σ a w) {Φ1:Ent} {W1:World} {a' : Act} (ht:a'.tmps=a.tmps) (hb:Kept (Old Φ1 W1) W1 w) (hd:a'.defers=Φ1.marks.map X7u∧Xxe Φ1 W1) (ho:∀b o,Old Φ1 W1 b→Φ b o=Φ1.imm b o)
  (hg:∀id g,Φ1.mu id=some g→1000000≤id) (hk:∀id g,Φ1.mu id=some g→(σ.b id≠none∨σ.m id≠none)→μ id=some g) (he:∀b o u,Φ1.imm b o=some u→Φ b o=some u∧b < W1.heap.size) (hm:∀g p,ω g=some p→Mine Φ1 W1 g):RelG Φ1 W1 M Φ μ ω σ a' w:=
 ⟨hb,hd,by rw [ht];exact h.size,h.imm,ho,by rw [ht];exact h.tmps,fun t n k cs E e=>by rw [ht];exact (h.own t n k cs E e).inB (fun g e=>hm g _ e),fun id bs e=>(h.box id bs e).inB (fun g q _ e=>hm g q e),h.gone,h.lt,hg,hk,he,fun id X e=>(h.map id X e).inB (fun g q _ e=>hm g q e),hm⟩
def X6h (c:PV):Prop:=∀n k cs E,c = .sl n k cs (some E)→cs = []∨∃(j:Nat) (c:PV),cs[j]? = some c∧noI64 c=true
theorem X4b {c:PV} (h:c.ownB=false):X6h c:=fun n k cs E e=>by rw [e] at h;simp [PV.ownB] at h
theorem Ki.mixJ {B B' : Nat→Prop} {Φ:Imm} {μ:Nat→Option Nat} {ω ω' : Nat→Option Who} {w:World} {p:Who} {n k:Nat} {cs:List PV} {E:TypeId} {v:Value} (h:Ki B Φ ω w p n k E v) (hr:Rep Φ μ (.sl n k cs (some E)) v) (ho:X6h (.sl n k cs (some E))) (hω:∀g,ω g=some p→Mix Φ g→ω' g=some p∧B' g):Ki B' Φ ω' w p n k E v:=by
 rcases h with h|⟨g,cap,cur,rfl,h2,h3,h4,h5,h6,h7,h8⟩|h
 ·exact .inl h
 ·obtain ⟨k1,k2⟩:=hω g h7 (Xrn hr h8.2 (ho n k cs E rfl))
  exact .inr (.inl ⟨g,cap,cur,rfl,k2,h3,h4,h5,h6,k1,h8⟩)
 ·exact .inr (.inr h)
structure X6i (σ:PS):Prop where
 t:∀t,(σ.t t).ownB=false
 b:∀id bs,σ.b id=some bs→∀c∈bs,X6h c
 m:∀id es clock,σ.m id=some (.map es clock)→∀e∈es,X6h e.2.2
theorem Xvf:X6i bot:=⟨fun _=>rfl,fun _ _ e=>(by cases e),fun _ _ _ e=>(by cases e)⟩
theorem X6i.put {σ:PS} (h:X6i σ) {d:Nat} {p:PV} (hp:p.ownB=false):X6i (σ.put d p):=by
 refine ⟨fun t=>?_,h.b,h.m⟩
 simp only [PS.put,X8]
 split
 ·exact hp
 ·exact h.t t
theorem X6i.setb {σ:PS} (h:X6i σ) {i:Nat} {bs:List PV} (hp:∀c∈bs,X6h c):X6i (σ.setb i bs):=by
 refine ⟨h.t,fun id cs e=>?_,h.m⟩
 simp only [PS.setb,X8] at e
 split at e
 ·cases e;exact hp
 ·exact h.b id cs e
theorem X6i.setm {σ:PS} (h:X6i σ) {i:Nat} {X:PMap} (hp:∀es clock,X = .map es clock→∀e∈es,X6h e.2.2):X6i (σ.setm i X):=by
 refine ⟨h.t,h.b,fun id es clock e=>?_⟩
 simp only [PS.setm,X8] at e
 split at e
 ·cases e;exact hp es clock rfl
 ·exact h.m id es clock e
theorem X59:∀c∈([]:List PV),X6h c:=fun c h=>by cases h
theorem X20 {c:PV} {cs:List PV} (h:X6h c) (hs:∀c∈cs,X6h c):∀d∈c :: cs,X6h d:=by
 intro d hd
 rcases List.mem_cons.1 hd with rfl|hd
 ·exact h
 ·exact hs d hd
open Classical in
theorem RelG.mixed (h:RelG Φ0 W M Φ μ ω σ a w) (ho:X6i σ):∃ωm,RelG Φ0 W M Φ μ ωm σ a w∧∀g p,ωm g=some p→ω g=some p∧Mix Φ g:=by
 let ωm:Nat→Option Who:=fun g=>if Mix Φ g then ω g else none
 have h1:∀g p,ωm g=some p→ω g=some p∧Mix Φ g:=by
  intro g p e
  have e' : (if Mix Φ g then ω g else none)=some p:=e
  split at e'
  ·rename_i hm;exact ⟨e',hm⟩
  ·cases e'
 have h2:∀g p,ω g=some p→Mix Φ g→ωm g=some p:=fun g p e hm=>by show (if _ then _ else _)=_;rw [if_pos hm];exact e
 have h3:∀g,(∀j,Φ g j=none)→Mix Φ g:=fun g hj o u e=>by rw [hj] at e;cases e
 refine ⟨ωm,⟨h.below,h.defers,h.size,h.imm,h.old,h.tmps,fun t n k cs E e=>?_,fun id bs e=>?_,h.gone,fun g p e=>h.lt g p (h1 g p e).1,h.gmu,h.kmu,h.ext,fun id X e=>?_,fun g p e=>h.mine g p (h1 g p e).1⟩,h1⟩
 ·have:=ho.t t
  rw [e] at this
  simp [PV.ownB] at this
 ·obtain ⟨g,cur,Ty,k1,k2,k3,k4,k5,k6,k7⟩:=h.box id bs e
  refine ⟨g,cur,Ty,k1,k2,k3,h2 g _ k4 (h3 g k5),k5,k6,fun j c hc=>?_⟩
  obtain ⟨u,r1,r2,r3,r4⟩:=k7 j c hc
  refine ⟨u,r1,r2,r3,fun n k cs E e' => (r4 n k cs E e').mixJ (cs:=cs) (μ:=μ) (by rw [←e'];exact r3) (by rw [←e'];exact ho.b id bs e c (Xc hc)) (fun g' e2 hno=>⟨h2 g' _ e2 hno,h.mine g' _ e2⟩)⟩
 ·obtain ⟨g,k1,k2,k3,k4,k5⟩:=h.map id X e
  refine ⟨g,k1,k2,h2 g _ k3 (h3 g k4),k4,?_⟩
  cases X with
  |map es clock=>
   obtain ⟨e0,ents,e1,e2,e3⟩:=k5
   refine ⟨e0,ents,e1,e2,fun j s k c hj=>?_⟩
   obtain ⟨en,f1,f2,f3,f4,f5⟩:=e3 j s k c hj
   refine ⟨en,f1,f2,f3,f4,fun n kk cs E ec=>(f5 n kk cs E ec).mixJ (cs:=cs) (μ:=μ) (by rw [←ec];exact f4) (by rw [←ec];exact ho.m id es clock e _ (Xc hj)) (fun g' e2 hno=>⟨h2 g' _ e2 hno,h.mine g' _ e2⟩)⟩
  |iter=>exact k5
theorem RelG.subS {σ' : PS} (h:RelG Φ0 W M Φ μ ω σ a w) (hs:Sub M σ σ'):∃Φ' μ' ω',RelG Φ0 W M Φ' μ' ω' σ' a w∧Xwy Φ ω w Φ' ω' w:=by
 obtain ⟨Φ',μ',ω',k⟩:=hs _ _ _ _ ⟨Φ,μ,ω,h.fresh0 h.gmu h.kmu⟩
 have hsi:=h.since (Z4.refl _ _) k
 have hold0:∀b,Old Φ0 W b→b < w.heap.size∧∀p,ω b≠some p:=fun b hb=>⟨Nat.lt_of_lt_of_le hb.1 h.below.size,h.noOld hb⟩
 refine ⟨Φ',μ',ω',k.rebase h.below h.defers (fun b o hb=>?_) h.gmu k.kmu (fun b o u e=>⟨?_,(h.ext b o u e).2⟩) (fun g p e=>?_),hsi⟩
 ·rw [hsi.imm b o (hold0 b hb).1 (hold0 b hb).2];exact h.old b o hb
 ·by_cases hω:∃p,ω b=some p
  ·exact (k.ext b o u ((Zb hω).trans e)).1
  ·have:=h.ext b o u e
   rw [hsi.imm b o (Nat.lt_of_lt_of_le this.2 h.below.size) (fun p e=>hω ⟨p,e⟩)]
   exact this.1
 ·rcases hsi.own g p e with ⟨q,hq⟩|hq
  ·exact h.mine g q hq
  ·exact .inl (Nat.le_trans h.below.size hq)
theorem X74 {w:World} {l:Nat} {ob:Obj} (hl:∀o u,w.cell? ⟨l,o,none⟩≠some u) {b o:Nat} {u:Value} (h:w.cell? ⟨b,o,none⟩=some u):(w.putObj l ob).cell? ⟨b,o,none⟩=some u:=by
 have hb:b≠l:=by rintro rfl;exact hl o u h
 simp only [World.cell?] at h ⊢
 rw [World.putObj_heap_other hb];exact h
theorem X49 {w:World} {l:Nat} {r:Loop} (h:w.heap[l]? = some (.loop r)):∀o u,w.cell? ⟨l,o,none⟩≠some u:=by
 intro o u e
 simp only [World.cell?,h] at e
 cases e
theorem RelG.putLoop (h:RelG Φ0 W M Φ μ ω σ a w) {l:Nat} {r:Loop} (hl:w.heap[l]? = some (.loop r)) (hω:∀p,ω l≠some p) (hold:¬Old Φ0 W l) (r' : Obj):RelG Φ0 W M Φ μ ω σ a (w.putObj l r'):=by
 refine h.grow (h.below.trans ⟨rfl,rfl,rfl,S_,fun k hk=>World.putObj_heap_other (fun e=>hold (e ▸ hk))⟩) (fun b o u e=>X74 (X49 hl) (h.imm b o u e)) (fun _ _ _=>rfl) (fun _ _ _ e=>e) (fun g p e=>⟨World.putObj_heap_other (fun e' => hω p (e' ▸ e)),fun _=>rfl⟩) S_
theorem RelG.putRound (h:RelG Φ0 W M Φ μ ω σ a w) {l:Nat} {r r' : Loop} (hr:Φ0.round=some l) (hl:w.heap[l]? = some (.loop r)):RelG (h.freshE Φ0.mu) (w.putObj l (.loop r')) M Φ μ ω σ a (w.putObj l (.loop r')):=by
 obtain ⟨q1,q2,-⟩:=h.rnd hr
 have h1:=h.fresh0 h.gmu h.kmu
 let Φg:Ent:=⟨freshI Φ0.imm Φ ω,fun g=>(∃p,ω g=some p)∨g=l,Φ0.mu,h.freshGlob,fun g hg=>by
  rcases hg with hg|rfl
  ·exact h.freshMix hg
  ·intro o u e
   have:=h.imm _ _ _ (h.freshSub e)
   exact absurd this (X49 hl o u),Φ0.marks,none⟩
 have h2:RelG Φg w M Φ μ ω σ a w:=h1.rebase (Kept.refl _ _) ⟨h1.defers.1,fun _ e=>by cases e⟩ (fun b o hb=>(Zq fun p e=>hb.2 (.inl ⟨p,e⟩)).symm) h.gmu h.kmu (fun b o u e=>⟨h.freshSub e,RelG.fresh h (h.freshSub e)⟩) (fun g p e=>.inr (.inl ⟨p,e⟩))
 have h3:RelG Φg w M Φ μ ω σ a (w.putObj l (.loop r')):=h2.putLoop hl q2 (fun ho=>ho.2 (.inr rfl)) _
 refine h3.rebase (Kept.refl _ _) ⟨h1.defers.1,fun l' e=>?_⟩ (fun b o hb=>(Zq fun p e=>hb.2 ⟨p,e⟩).symm) h.gmu h.kmu (fun b o u e=>⟨h.freshSub e,by simpa using RelG.fresh h (h.freshSub e)⟩) (fun g p e=>.inr ⟨p,e⟩)
 have e' : Φ0.round=some l':=e
 rw [hr] at e'
 cases e'
 exact ⟨⟨by simpa using q1,fun ⟨p,hp⟩=>q2 p hp⟩,r',World.putObj_heap_same q1⟩
def Xtk (f:Nat→PV):List Nat→List PV→Nat→PV
 |p :: ps,x :: xs=>Xtk (upd f p x) ps xs
 |_,_=>f
theorem RelG.puts:∀(ps:List Nat) (xs:List PV) (vs:List Value) (σ:PS) (a:Act),RelG Φ0 W M Φ μ ω σ a w→(∀p∈ps,p < M)→ps.length=xs.length→RepL Φ μ xs vs→(∀x∈xs,x.ownB=false) →
  RelG Φ0 W M Φ μ ω { σ with t:=Xtk σ.t ps xs } { a with tmps:=(ps.zip vs).foldl (fun t (p,v)=>t.setIfInBounds p v) a.tmps } w
 | [],xs,vs,σ,a,h,_,_,_,_=>by simpa [Xtk] using h
 |p :: ps,[],vs,σ,a,h,_,hl,_,_=>by cases hl
 |p :: ps,x :: xs,[],σ,a,h,_,_,hr,_=>by have:=hr.1;cases this
 |p :: ps,x :: xs,v :: vs,σ,a,h,hp,hl,hr,ho=>by
  have h1:=h.put (hp p List.mem_cons_self) (hr.2 0 x v rfl rfl) (ho x List.mem_cons_self)
  have:=RelG.puts ps xs vs _ _ h1 (fun q hq=>hp q (List.mem_cons_of_mem _ hq)) (by simpa using hl) ⟨by have:=hr.1;simpa using this,fun j y u h1 h2=>hr.2 (j+1) y u h1 h2⟩ (fun y hy=>ho y (List.mem_cons_of_mem _ hy))
  exact this
end
section
open Go.RowKit
def CJ (Φr:Ent) (W1:World) (M:Nat) (a0:Act) (l:Nat) (σ:PS) (I:Nat→Prop) (K:Imm) (w:World):Prop:=
 ∃Φ μ ω,RelG Φr W1 M Φ μ ω σ a0 w∧(∀g,I g→∀p,ω g≠some p)∧(∀p,ω l≠some p)∧(∀b o u,I b→Φ b o=some u→K b o=some u)∧(∀g,I g→¬Old Φr W1 g∧g≠l)
end
section
open Go.RowKit
variable {Φr:Ent} {W1:World} {M:Nat} {a0:Act} {l:Nat} {σ:PS} {I I' : Nat→Prop} {K K' : Imm} {w w' : World} {P:Program}
theorem CJ.step (h:CJ Φr W1 M a0 l σ I K w) (hlw:l < w.heap.size) (hk:Kept (fun b=>b < w.heap.size∧¬I b) w w') (hI:∀g,I' g→I g∨w.heap.size≤g) (hK:∀b o u,K b o=some u→I b→K' b o=some u) (hc:∀b o u,K' b o=some u→w'.cell? ⟨b,o,none⟩=some u):CJ Φr W1 M a0 l σ I' K' w':=by
 obtain ⟨Φ,μ,ω,hg,h1,h2,h3,h4⟩:=h
 have hg' : RelG Φr W1 M Φ μ ω σ a0 w':=by
  refine hg.grow (hg.below.trans (hk.mono fun b hb=>⟨Nat.lt_of_lt_of_le hb.1 hg.below.size,fun hi=>(h4 b hi).1 hb⟩)) (fun b o u e=>?_) (fun _ _ _=>rfl) (fun _ _ _ e=>e) (fun g p e=>⟨hk.block g ⟨hg.lt g p e,fun hi=>h1 g hi p e⟩,fun _=>rfl⟩) hk.size
  ·by_cases hi:I b
   ·exact hc b o u (hK b o u (h3 b o u hi e) hi)
   ·have:=hg.imm b o u e
    simp only [World.cell?] at this ⊢
    rw [hk.block b ⟨RelG.fresh hg e,hi⟩]
    exact this
 refine ⟨Φ,μ,ω,hg',fun g hi p e=>?_,h2,fun b o u hi e=>?_,fun g hi=>?_⟩
 ·rcases hI g hi with h' | h'
  ·exact h1 g h' p e
  ·have:=hg.lt g p e;omega
 ·rcases hI b hi with h' | h'
  ·exact hK b o u (h3 b o u h' e) h'
  ·have:=RelG.fresh hg e;omega
 ·rcases hI g hi with h' | h'
  ·exact h4 g h'
  ·exact ⟨fun ho=>by have:=ho.1;have:=hg.below.size;omega,O_⟩
theorem CJ.putLoop {r:Loop} (h:CJ Φr W1 M a0 l σ I K w) (hl:w.heap[l]? = some (.loop r)) (hold:¬Old Φr W1 l) (r' : Obj):CJ Φr W1 M a0 l σ I K (w.putObj l r'):=by
 obtain ⟨Φ,μ,ω,hg,h1,h2,h3,h4⟩:=h
 exact ⟨Φ,μ,ω,hg.putLoop hl h2 hold r',h1,h2,h3,h4⟩
theorem CJ.sub {σ' : PS} (h:CJ Φr W1 M a0 l σ I K w) (hs:Sub M σ σ') (hl:l < w.heap.size) (hI:∀g,I g→g < w.heap.size):CJ Φr W1 M a0 l σ' I K w:=by
 obtain ⟨Φ,μ,ω,hg,h1,h2,h3,h4⟩:=h
 obtain ⟨Φ',μ',ω',k,hsi⟩:=hg.subS hs
 have hno:∀g,g < w.heap.size→(∀p,ω g≠some p)→∀p,ω' g≠some p:=fun g hlt hn p e=>by
  rcases hsi.own g p e with ⟨q,hq⟩|hq
  ·exact hn q hq
  ·omega
 refine ⟨Φ',μ',ω',k,fun g hi=>hno g (hI g hi) (h1 g hi),hno l hl h2,fun b o u hi e=>?_,h4⟩
 rw [hsi.imm b o (hI b hi) (h1 b hi)] at e
 exact h3 b o u hi e
def Xtp (M:Nat) (T:Nat→PV) (F' : PS) (Ip:Prop) (σ' : PS):Prop:=Ip∧Sub M { σ' with t:=T } F'∧∀t,LowI (Kn σ') (T t)
def Xb4 (M:Nat) (o:Nat) (L:List Nat) (T:Nat→PV) (Q:PS→Prop) (σ' : PS):Prop:=
 (∀t,LowI (Kn σ') (T t))∧∃G σe,Sub M { σ' with t:=T } G∧(∀i,Kn G i→i∈L)∧SubR (fun i=>i+o) (Kn σe) G σe∧Q σe
def X6p (M:Nat) (o:Nat) (L:List Nat) (T:Nat→PV) (F' : PS) (Ip:Prop) (Q:Exit→PS→Prop):Exit→PS→Prop
 | .normal,σ' => Xtp M T F' Ip σ'
 | .ret,σ' => Xb4 M o L T (Q .ret) σ'
 | .exit i,σ' => Xb4 M o L T (Q (.exit i)) σ'
 | .goto i,σ' => Xb4 M o L T (Q (.goto i)) σ'
 |_,_=>False
def Xwj (K:PS→Prop):Exit→PS→Prop
 | .normal,σ=>K σ
 |_,_=>False
theorem Xzb {K:PS→Prop} {σ:PS} (h:K σ):Xwj K .normal σ:=h
theorem Xl4 {r0:Loop} {ps:List Nat} {x:List PV} {vs:List Value} {F F' : PS} {Q:Exit→PS→Prop} {Ip:Prop} {o:Nat} {L:List Nat} {Φe:Imm} {Lb:Nat→Prop} (hLI:∀g,Lb g→I g) (hLo:∀g,Lb g→¬Old Φr W1 g) (hLl:¬Lb l)
  (hgivm:∀g,g < W1.heap.size→Mine Φr W1 g→g≠l→Mix Φe g) (himmr:Φr.imm=Φe) (hkn:∀i g,Φr.mu i=some g→Kn F i) (hmu:∀i,Kn F i→1000000≤i) (hlW:l < W1.heap.size) (hlold:¬Old Φr W1 l) (hmix:Mix Φe l)
  (hF:X6i F) (hps:∀p∈ps,p < M) (hpx:ps.length=x.length) (hx:∀p∈x,Low p∧p.ownB=false) {assign body:Code} (hassign:PW P M assign (Xwj fun σ1=>PW P M body (X6p M o L F.t F' Ip Q) σ1) { F with t:=Xtk F.t ps x })
  (hJ:CJ Φr W1 M a0 l F I K w) (hl:w.heap[l]? = some (.loop r0)) (hrs:r0.state = .ready) (hI:∀g,I g→(W1.heap.size≤g∨Lb g)∧g < w.heap.size) (hK:∀b o u,K b o=some u→w.cell? ⟨b,o,none⟩=some u) (hK1:∀b o,b < W1.heap.size→¬Lb b→K b o=Φe b o) (hK2:∀b o u,W1.heap.size≤b→K b o=some u→I b) (hrep:RepL K mu0 x vs) :
  assign.wpIn (FW (some l)) 0 P (Exit.then (fun a₁ w₁=>∃w₂,(Instr.beginRound l).run P w₁ = .ok () w₂∧body.wpIn (FW (some l)) 0 P (fun e a' w3=>(w3.heap[l]? = some (.loop { r0 with state:=.busy })∧Kept (fun g=>(I g∨(g < W1.heap.size∧¬Mix Φe g))) w w3∧(∀b o u,K b o=some u→w3.cell? ⟨b,o,none⟩=some u)) ∧
   (match e with
    | .normal=>Ip∧CJ Φr W1 M a0 l F' I K w3
    | .ret=>∃G σe,CJ Φr W1 M a0 l G I K w3∧(∀i,Kn G i→i∈L)∧SubR (fun i=>i+o) (Kn σe) G σe∧Q .ret σe
    | .exit i=>∃G σe,CJ Φr W1 M a0 l G I K w3∧(∀i,Kn G i→i∈L)∧SubR (fun i=>i+o) (Kn σe) G σe∧Q (.exit i) σe
    | .goto i=>∃G σe,CJ Φr W1 M a0 l G I K w3∧(∀i,Kn G i→i∈L)∧SubR (fun i=>i+o) (Kn σe) G σe∧Q (.goto i) σe
    |_=>False)) a₁ w₂) (fun _ _ _=>False))
   { tmps:=(ps.zip vs).foldl (fun t (p,v)=>t.setIfInBounds p v) a0.tmps,defers := [] } w:=by
 obtain ⟨Φp,μp,ωp,hgp,hc1,hc2,hc3,hc4⟩:=hJ
 -- what the iterator knows beside what is known
 let Φu:Imm:=fun b o=>(Φp b o).orElse fun _=>K b o
 have hue:∀b o u,Φu b o=some u→Φp b o=some u∨(Φp b o=none∧K b o=some u):=by
  intro b o u e
  have e' : ((Φp b o).orElse fun _=>K b o)=some u:=e
  cases hh:Φp b o with
  |some v=>rw [hh] at e'; left;simpa using e'
  |none=>rw [hh] at e'; right;exact ⟨rfl,by simpa using e'⟩
 have hup:∀b o u,Φp b o=some u→Φu b o=some u:=by
  intro b o u e
  show ((Φp b o).orElse fun _=>K b o)=some u
  rw [e];rfl
 have huK:∀b o u,K b o=some u→Φu b o=some u:=by
  intro b o u e
  show ((Φp b o).orElse fun _=>K b o)=some u
  cases hh:Φp b o with
  |none=>simpa using e
  |some v=>
   have e1:=hgp.imm b o v hh
   rw [hK b o u e] at e1
   simpa using e1.symm
 have hun:∀b o,¬I b→Φu b o=Φp b o:=by
  intro b o hi
  show ((Φp b o).orElse fun _=>K b o)=Φp b o
  cases hh:Φp b o with
  |some v=>rfl
  |none=>
   show K b o=none
   cases hk:K b o with
   |none=>rfl
   |some u=>
    rcases Nat.lt_or_ge b W1.heap.size with h' | h'
    ·rw [hK1 b o h' (fun hl=>hi (hLI b hl)),←himmr] at hk
     rw [(hgp.ext b o u hk).1] at hh;cases hh
    ·exact absurd (hK2 b o u h' hk) hi
 have hnI:∀b,Old Φr W1 b→¬I b:=fun b hb hi=>by
  rcases (hI b hi).1 with h' | h'
  ·have:=hb.1;omega
  ·exact hLo b h' hb
 have hIl:∀g,I g→g≠l:=fun g hi e=>by
  rcases (hI g hi).1 with h' | h'
  ·omega
  ·exact hLl (e ▸ h')
 have hg1:RelG Φr W1 M Φu μp ωp F a0 w:=hgp.grow hgp.below (fun b o u e=>(hue b o u e).elim (hgp.imm b o u) (fun h=>hK b o u h.2)) (fun b o hb=>hun b o (hnI b hb)) hup (fun g p e=>⟨rfl,fun j=>hun g j (fun hi=>hc1 g hi p e)⟩) (Nat.le_refl _)
 obtain ⟨ωm,hg2,hωm⟩:=hg1.mixed hF
 have hml:∀p,ωm l≠some p:=fun p e=>hc2 p (hωm l p e).1
 have hlw:l < w.heap.size:=Nat.lt_of_lt_of_le hlW hgp.below.size
 have hkn' : ∀i g,μp i=some g→Kn F i:=by
  intro i g e
  by_cases hk:Kn F i
  ·exact hk
  ·have:=PS.freeB_iff.1 (by simpa [Kn] using hk:F.freeB i=true)
   rw [hgp.gone i this.1 this.2] at e;cases e
 let Φk:Ent:=⟨Φu,fun g=>∃p,ωm g=some p,μp,hg2.glob,fun g ⟨p,e⟩=>(hωm g p e).2,[],some l⟩
 have hg3:=hg2.rebaseA (a':={ tmps:=a0.tmps,defers := [] }) (Φ1:=Φk) (W1:=w) rfl (Kept.refl _ _) ⟨rfl,fun l' e=>by cases e;exact ⟨⟨hlw,fun ⟨p,e⟩=>hml p e⟩,r0,hl⟩⟩ (fun b o hb=>rfl) (fun i g e=>hmu i (hkn' i g e)) (fun i g e _=>e) (fun b o u e=>⟨e,RelG.fresh hg2 e⟩) (fun g p e=>.inr ⟨p,e⟩)
 have hrep' : RepL Φu μp x vs:=⟨hrep.1,fun j p u h1 h2=>((hrep.2 j p u h1 h2).low (hx p (Xc h1)).1).mono huK (fun _ _ e=>e)⟩
 have hg4:=RelG.puts ps x vs F _ hg3 hps hpx hrep' (fun p hp=>(hx p hp).2)
 refine wpIn_mono (hassign Φk w _ w ⟨_,_,_,hg4⟩) ?_
 rintro e a1 w1 ⟨σ1,Φ2,W2,hq,hl2,Φ',μ',ω',k1⟩
 cases e with
 |normal=>?_
 |_=>exact hq.elim
 have hs1:Kept (fun b=>b < w.heap.size∧∀p,ωm b≠some p) w w1:=(hl2.kept.trans (k1.below.mono hl2.old)).mono fun b hb=>⟨hb.1,fun ⟨p,e⟩=>hb.2 p e⟩
 have hl1:w1.heap[l]? = some (.loop r0):=(hs1.block l ⟨hlw,hml⟩).trans hl
 have hr2:Φ2.round=some l:=hl2.round
 refine ⟨_,run_beginRound hl1 hrs,?_⟩
 have k2:=k1.putRound (r':={ r0 with state:=.busy }) hr2 hl1
 have hω'l:∀p,ω' l≠some p:=(k1.rnd hr2).2.1
 have hbw:=hq _ _ _ _ ⟨_,_,_,k2⟩
 rw [show (k1.freshE Φ2.mu).round=some l from hr2] at hbw
 refine wpIn_mono hbw ?_
 rintro e a3 w3 ⟨σ',Φ3,W3,hq',hl3,Φ'',μ'',ω'',k3⟩
 have hsz1:w.heap.size≤w1.heap.size:=hs1.size
 have hω' : ∀g p,ω' g=some p→(∃q,ωm g=some q)∨w.heap.size≤g:=fun g p e=>(hl2.mine g (k1.mine g p e)).symm
 have hω'' : ∀g p,ω'' g=some p→(∃q,ωm g=some q)∨w.heap.size≤g:=by
  intro g p e
  rcases hl3.mine g (k3.mine g p e) with h' | ⟨q,h'⟩
  ·right
   have:w1.heap.size≤g:=by simpa using h'
   omega
  ·exact hω' g q h'
 have hs3:Kept (fun b=>b < w1.heap.size∧∀p,ω' b≠some p) (w1.putObj l (.loop { r0 with state:=.busy })) w3:=(hl3.kept.trans (k3.below.mono hl3.old)).mono fun b hb=>⟨by simpa using hb.1,fun ⟨p,e⟩=>hb.2 p e⟩
 have hb' : ∀b,b < w.heap.size→(∀p,ωm b≠some p)→∀p,ω' b≠some p:=fun b h1 h2 p e=>by
  rcases hω' b p e with ⟨q,hq⟩|hq
  ·exact h2 q hq
  ·omega
 have hs:Kept (fun b=>b < w.heap.size∧(∀p,ωm b≠some p)∧b≠l) w w3:=by
  refine ⟨hs3.os.trans hs1.os,hs3.tape.trans hs1.tape,hs3.output.trans hs1.output,Nat.le_trans hsz1 (by simpa using hs3.size),fun b hb=>?_⟩
  rw [hs3.block b ⟨Nat.lt_of_lt_of_le hb.1 hsz1,hb' b hb.1 hb.2.1⟩,World.putObj_heap_other hb.2.2]
  exact hs1.block b ⟨hb.1,hb.2.1⟩
 have hl3' : w3.heap[l]? = some (.loop { r0 with state:=.busy }):=by
  rw [hs3.block l ⟨Nat.lt_of_lt_of_le hlw hsz1,hω'l⟩]
  exact World.putObj_heap_same (Nat.lt_of_lt_of_le hlw hsz1)
 have hmu3:Φ3.mu=μp:=hl3.mu.trans hl2.mu
 have hsub:∀b o u,Φu b o=some u→Φ'' b o=some u:=by
  intro b o u e
  have e2:Φ2.imm b o=some u:=by rw [hl2.imm];exact e
  refine (k3.ext b o u ?_).1
  rw [hl3.imm]
  show freshI Φ2.imm Φ' ω' b o=some u
  by_cases hh:∃p,ω' b=some p
  ·rw [Zb hh];exact e2
  ·rw [Zq fun p e=>hh ⟨p,e⟩];exact (k1.ext b o u e2).1
 have hold:∀b o,b < w.heap.size→(∀p,ωm b≠some p)→Φ'' b o=Φu b o:=by
  intro b o h1 h2
  have h3:=hb' b h1 h2
  have e1:Φ' b o=Φu b o:=by
   rw [k1.old b o (hl2.old b ⟨h1,fun ⟨p,e⟩=>h2 p e⟩),hl2.imm]
  have hlt:b < w1.heap.size:=Nat.lt_of_lt_of_le h1 hsz1
  rw [k3.old b o (hl3.old b ⟨by simpa using hlt,fun ⟨p,e⟩=>h3 p e⟩),hl3.imm]
  show freshI Φ2.imm Φ' ω' b o=_
  rw [Zq h3,e1]
 have hWr:∀b,Old Φr W1 b→b < w.heap.size∧(∀p,ωm b≠some p)∧b≠l:=fun b hb=>
  ⟨Nat.lt_of_lt_of_le hb.1 hgp.below.size,fun p e=>hgp.noOld hb p (hωm b p e).1,fun e=>hlold (e ▸ hb)⟩
 have hcJ:(∀t,LowI (Kn σ') (F.t t))→CJ Φr W1 M a0 l { σ' with t:=F.t } I K w3:=by
  intro hlow
  have hgT:RelG Φr W1 M Φ'' μ'' ω'' { σ' with t:=F.t } a0 w3:=by
   refine ⟨hgp.below.trans (hs.mono hWr),hgp.defers,hgp.size,k3.imm,fun b o hb=>?_,fun t=>?_,fun t n k cs E e=>?_,fun id bs e=>?_,k3.gone,k3.lt,hgp.gmu,fun i g e hi=>?_,fun b o u e=>?_,fun id X e=>?_,fun g p e=>?_⟩
   ·obtain ⟨q1,q2,-⟩:=hWr b hb
    rw [hold b o q1 q2,hun b o (hnI b hb)]
    exact hgp.old b o hb
   ·refine ((hgp.tmps t).mono hup (fun _ _ e=>e)).lowI (hlow t) (fun i hi g e=>?_) |>.mono hsub (fun _ _ e=>e)
    exact k3.kmu i g (by rw [hmu3];exact e) hi.spec
   ·have h':=hF.t t
    have e' : F.t t = .sl n k cs (some E):=e
    rw [e'] at h'
    simp [PV.ownB] at h'
   ·exact (k3.box id bs e).inB (fun g q _ e=>by
     rcases hω'' g q e with ⟨q',hq'⟩|hq'
     ·exact hgp.mine g q' (hωm g q' hq').1
     ·exact .inl (Nat.le_trans hgp.below.size hq'))
   ·have hkF:=hkn i g e
    exact k3.kmu i g (by rw [hmu3];exact hgp.kmu i g e hkF.spec) hi
   ·have h':=hgp.ext b o u e
    exact ⟨hsub b o u (hup b o u h'.1),h'.2⟩
   ·exact (k3.map id X e).inB (fun g q _ e=>by
     rcases hω'' g q e with ⟨q',hq'⟩|hq'
     ·exact hgp.mine g q' (hωm g q' hq').1
     ·exact .inl (Nat.le_trans hgp.below.size hq'))
   ·rcases hω'' g p e with ⟨q',hq'⟩|hq'
    ·exact hgp.mine g q' (hωm g q' hq').1
    ·exact .inl (Nat.le_trans hgp.below.size hq')
  have hnω:∀g,g < w.heap.size→(∀p,ωp g≠some p)→∀p,ω'' g≠some p:=fun g h1 h2 p e=>by
   rcases hω'' g p e with ⟨q,hq⟩|hq
   ·exact h2 q (hωm g q hq).1
   ·omega
  refine ⟨Φ'',μ'',ω'',hgT,fun g hi=>hnω g (hI g hi).2 (hc1 g hi),hnω l hlw hc2,fun b o u hi e=>?_,fun g hi=>⟨fun ho=>hnI g ho hi,hIl g hi⟩⟩
  rw [hold b o (hI b hi).2 (fun p e=>hc1 b hi p (hωm b p e).1)] at e
  rcases hue b o u e with h' | h'
  ·exact hc3 b o u hi h'
  ·exact h'.2
 have hlw3:l < w3.heap.size:=Nat.lt_of_lt_of_le hlw hs.size
 have hIw3:∀g,I g→g < w3.heap.size:=fun g hi=>Nat.lt_of_lt_of_le (hI g hi).2 hs.size
 refine ⟨⟨hl3',hs.mono fun g hg=>?_,fun b o u e=>k3.imm b o u (hsub b o u (huK b o u e))⟩,?_⟩
 ·rcases hg with hi|⟨h1,h2⟩
  ·exact ⟨(hI g hi).2,fun p e=>hc1 g hi p (hωm g p e).1,hIl g hi⟩
  ·have hgl:g≠l:=by rintro rfl;exact h2 hmix
   exact ⟨Nat.lt_of_lt_of_le h1 hgp.below.size,fun p e=>h2 (hgivm g h1 (hgp.mine g p (hωm g p e).1) hgl),hgl⟩
 ·have hout:∀Q0:PS→Prop,Xb4 M o L F.t Q0 σ'→∃G σe,CJ Φr W1 M a0 l G I K w3∧(∀i,Kn G i→i∈L)∧SubR (fun i=>i+o) (Kn σe) G σe∧Q0 σe:=by
   rintro Q0 ⟨h1,G,σe,h2,h3,h4,h5⟩
   exact ⟨G,σe,(hcJ h1).sub h2 hlw3 hIw3,h3,h4,h5⟩
  cases e with
  |normal=>exact ⟨hq'.1,(hcJ hq'.2.2).sub hq'.2.1 hlw3 hIw3⟩
  |ret=>exact hout _ hq'
  |exit i=>exact hout _ hq'
  |goto i=>exact hout _ hq'
  |panic ch=>exact hq'.elim
  |outgrown=>exact hq'.elim
end
section
open Go.RowKit
variable {M:Nat} {Q:Exit→PS→Prop} {σ:PS} {P:Program}
theorem Xvw {Φ0:Ent} {W:World} {Φ:Imm} {μ:Nat→Option Nat} {ω:Nat→Option Who} {a:Act} {w:World} (h:RelG Φ0 W M Φ μ ω σ a w) (fn:FuncId) (ps:Array Tmp) (assign body:Code) :
  ∃(l:Nat) (ms:List Nat) (df:Nat) (W1:World),(Instr.enterLoop fn a.tmps ps assign body (FW Φ0.round).round).run P w = .ok (l,ms.map X7u) W1∧W1.heap[l]? = some (.loop { state:=.ready,pending:=none,fn,tmps:=a.tmps,params:=ps,assign,body,defers:=df })∧w.heap.size≤l∧Kept (fun b=>b < w.heap.size) w W1∧ms.Nodup ∧
   ∀m∈ms,w.heap.size≤m∧m < W1.heap.size∧m≠l∧W1.heap[m]? = some (.deferred (some [])):=by
 show ∃(l:Nat) (ms:List Nat) (df:Nat) (W1:World),(Instr.enterLoop fn a.tmps ps assign body Φ0.round).run P w=_∧_
 cases hro:Φ0.round with
 |none=>
  refine ⟨w.heap.size+1,[w.heap.size],w.heap.size,_,run_enterLoop_outer _ _ _ _ _,?_,O_,⟨rfl,rfl,rfl,by simp;omega,fun k hk=>?_⟩,S_,fun m hm=>?_⟩
  ·have:=World.alloc_heap_new (w.alloc (.deferred (some []))) (.loop { state:=.ready,pending:=none,fn,tmps:=a.tmps,params:=ps,assign,body,defers:=w.heap.size })
   rwa [World.size_alloc] at this
  ·rw [Below.heap_alloc _ _ _ (by simp;omega),Below.heap_alloc _ _ _ hk]
  ·have:m=w.heap.size:=by simpa using hm
   subst this
   refine ⟨Nat.le_refl _,by simp;omega,O_,?_⟩
   exact (Below.heap_alloc _ _ _ S_).trans (World.alloc_heap_new w _)
 |some l0=>
  obtain ⟨q1,q2,r,q3⟩:=h.rnd hro
  refine ⟨w.heap.size,[],r.defers,w.alloc (.loop { state:=.ready,pending:=none,fn,tmps:=a.tmps,params:=ps,assign,body,defers:=r.defers }),?_,World.alloc_heap_new w _,Nat.le_refl _,⟨rfl,rfl,rfl,S_,fun k hk=>Below.heap_alloc _ _ _ hk⟩,S_,fun m hm=>by cases hm⟩
  unfold Instr.enterLoop
  simp only [Sem.run_bind,run_getLoop q3,Result.andThen,Sem.run_pure,run_newObj_alloc]
  rfl
def Xql (σ:PS):List Nat→List PV→PS
 |p :: ps,x :: xs=>Xql (σ.put p x) ps xs
 |_,_=>σ
theorem Xo7:∀(ps:List Nat) (xs:List PV) (σ:PS),{ σ with t:=Xtk σ.t ps xs } = Xql σ ps xs
 | [],_,_=>rfl
 |_ :: _,[],_=>rfl
 |p :: ps,x :: xs,σ=>Xo7 ps xs (σ.put p x)
theorem Xy1 {S:Nat→Prop} : ∀t,LowI S (bot.t t):=fun _=>.undef
theorem Xyx {S:Nat→Prop} {σ:PS} {d:Nat} {p:PV} (h:∀t,LowI S (σ.t t)) (hp:LowI S p):∀t,LowI S ((σ.put d p).t t):=by
 intro t
 simp only [PS.put,X8]
 split
 ·exact hp
 ·exact h t
theorem Xr3 {S:Nat→Prop} {σ:PS} {d:Nat} {bs:List PV} (h:∀t,LowI S (σ.t t)):∀t,LowI S ((σ.setb d bs).t t):=h
theorem Xso {S:Nat→Prop} {σ:PS} {d:Nat} {X:PMap} (h:∀t,LowI S (σ.t t)):∀t,LowI S ((σ.setm d X).t t):=h
theorem Y06 {o:Nat} {L:List Nat} {T:Nat→PV} {F' : PS} {Ip:Prop} (h1:Ip) (h2:Sub M { σ with t:=T } F') (h3:∀t,LowI (Kn σ) (T t)):X6p M o L T F' Ip Q .normal σ:=⟨h1,h2,h3⟩
theorem Xcm {o j:Nat} {L:List Nat} {T:Nat→PV} {F' : PS} {Ip:Prop} (G σe:PS) (h1:∀t,LowI (Kn σ) (T t)) (h2:Sub M { σ with t:=T } G) (h3:∀i,Kn G i→i∈L) (h4:SubR (fun i=>i+o) (Kn σe) G σe) (h5:Q (.exit j) σe):X6p M o L T F' Ip Q (.exit j) σ:=⟨h1,G,σe,h2,h3,h4,h5⟩
def PS.addG (σ:PS) (given:List (Nat×List PV)) (gm:List (Nat×PMap)):PS:={ t:=σ.t,b:=given.foldl (fun b x=>upd b x.1 (some x.2)) σ.b,m:=gm.foldl (fun b x=>upd b x.1 (some x.2)) σ.m }
open Classical in
theorem RelG.addG {Φ0:Ent} {W:World} {Φ:Imm} {μ:Nat→Option Nat} {ω:Nat→Option Who} {a:Act} {w:World} (h:RelG Φ0 W M Φ μ ω σ a w) {given:List (Nat×List PV)} {gm:List (Nat×PMap)} {K:Imm} {μg:Nat→Option Nat} {ωg:Nat→Option Who} (hok:Xdm given gm)
  (hgb:∀x∈given,V2 (fun _=>True) K μg ωg w x.1 x.2) (hgm:∀x∈gm,Z6 (fun _=>True) K μg ωg w x.1 x.2) (hK:∀b o u,K b o=some u→w.cell? ⟨b,o,none⟩=some u) (hfree:∀i∈X0 given gm,¬Kn σ i)
  (hkmu:∀i∈X0 given gm,∀g,Φ0.mu i=some g→μg i=some g) (hmine:∀g,Z5 μg (X0 given gm) g→Mine Φ0 W g) (hold:∀b o u,Old Φ0 W b→K b o=some u→Φ b o=some u)
  (hωL:∀g,Z5 μg (X0 given gm) g→∀p,ω g≠some p) (hωK:∀g p,ω g=some p→∀j u,K g j=some u→Φ g j=some u) (hΦL:∀g,Z5 μg (X0 given gm) g→∀j,Φ g j=none):Rel Φ0 W M (σ.addG given gm) a w:=by
 have hnd1:(given.map (·.1)).Nodup∧(gm.map (·.1)).Nodup:=by have:=hok.nd;unfold X0 at this;rw [List.nodup_append] at this;exact ⟨this.1,this.2.1⟩
 have hdisj:∀i,i∈given.map (·.1)→i∈gm.map (·.1)→False:=by have:=hok.nd;unfold X0 at this;rw [List.nodup_append] at this;exact fun i h1 h2=>this.2.2 i h1 i h2 rfl
 have hfr:∀i∈X0 given gm,σ.b i=none∧σ.m i=none:=fun i hi=>PS.freeB_iff.1 (by simpa [Kn] using hfree i hi)
 let Φm:Imm:=fun b o=>(Φ b o).orElse fun _=>K b o
 let μm:Nat→Option Nat:=fun i=>if i∈X0 given gm then μg i else μ i
 let ωm:Nat→Option Who:=fun g=>if Z5 μg (X0 given gm) g then ωg g else ω g
 have hue:∀b o u,Φm b o=some u→Φ b o=some u∨(Φ b o=none∧K b o=some u):=by
  intro b o u e
  have e' : ((Φ b o).orElse fun _=>K b o)=some u:=e
  cases hh:Φ b o with
  |some v=>rw [hh] at e'; left;simpa using e'
  |none=>rw [hh] at e'; right;exact ⟨rfl,by simpa using e'⟩
 have hup:∀b o u,Φ b o=some u→Φm b o=some u:=by
  intro b o u e
  show ((Φ b o).orElse fun _=>K b o)=some u
  rw [e];rfl
 have huK:∀b o u,K b o=some u→Φm b o=some u:=by
  intro b o u e
  show ((Φ b o).orElse fun _=>K b o)=some u
  cases hh:Φ b o with
  |none=>simpa using e
  |some v=>
   have e1:=h.imm b o v hh
   rw [hK b o u e] at e1
   simpa using e1.symm
 have hsame:∀b o,(∀u,K b o=some u→Φ b o=some u)→Φm b o=Φ b o:=by
  intro b o hh
  show ((Φ b o).orElse fun _=>K b o)=Φ b o
  cases h1:Φ b o with
  |some v=>rfl
  |none=>
   show K b o=none
   cases h2:K b o with
   |none=>rfl
   |some u=>rw [hh u h2] at h1;cases h1
 have hμm:∀i g,μ i=some g→μm i=some g:=by
  intro i g e
  show (if _ then _ else _)=_
  split
  ·rename_i hi
   obtain ⟨h1,h2⟩:=hfr i hi
   rw [h.gone i h1 h2] at e;cases e
  ·exact e
 have hμG:∀i,i∈X0 given gm→∀g,μg i=some g→μm i=some g:=fun i hi g e=>by show (if _ then _ else _)=_;rw [if_pos hi];exact e
 have hωm:∀g p,ω g=some p→ωm g=some p:=by
  intro g p e
  show (if _ then _ else _)=_
  split
  ·rename_i hg;exact absurd e (hωL g hg p)
  ·exact e
 have hlent:=fun {g:Nat} (hg:Z5 μg (X0 given gm) g)=>Xai hgb hgm hg
 have hωG:∀i,i∈X0 given gm→∀g,μg i=some g→ωg g=some (.box i)→ωm g=some (.box i)∧Mine Φ0 W g:=by
  intro i hi g e1 e2
  have hg:Z5 μg (X0 given gm) g:=⟨i,hi,e1⟩
  refine ⟨?_,hmine g hg⟩
  show (if _ then _ else _)=_
  rw [if_pos hg];exact e2
 have hωc:∀g p,ωm g=some p→(Z5 μg (X0 given gm) g∧ωg g=some p)∨ω g=some p:=by
  intro g p e
  have e' : (if Z5 μg (X0 given gm) g then ωg g else ω g)=some p:=e
  split at e'
  ·rename_i hg;exact .inl ⟨hg,e'⟩
  ·exact .inr e'
 have hkeep:X6r (fun _=>True) Φ Φm ω ωm w w:=fun q _ g e=>⟨rfl,fun j=>hsame g j (fun u=>hωK g q e j u),hωm g q e⟩
 have hgivenK:∀i,i∈X0 given gm→∀g,μg i=some g→∀j,Φm g j=none:=by
  intro i hi g e j
  obtain ⟨g',h1,-,h3,-⟩:=Xg6 hgb hgm hi
  rw [e] at h1;cases h1
  cases hh:Φm g j with
  |none=>rfl
  |some u=>
   rcases hue g j u hh with h' | h'
   ·rw [hΦL g ⟨i,hi,e⟩] at h'; cases h'
   ·rw [h3] at h'; cases h'.2
 have hb1:∀(id:Nat) (bs:List PV),(id,bs)∈given→V2 (Mine Φ0 W) Φm μm ωm w id bs:=by
  intro id bs h1
  have hi:id∈X0 given gm:=List.mem_append.2 (.inl (List.mem_map.2 ⟨_,h1,rfl⟩))
  obtain ⟨g,cur,T,k1,k2,k3,k4,k5,k6,k7⟩:=(hgb _ h1).lent (S:=fun i=>i∈X0 given gm) (B':=Mine Φ0 W) (ω':=ωm) hi (hok.lowb _ h1) (hok.nob _ h1) hμG (fun g e1 e2=>hωG id hi g e1 e2)
  refine ⟨g,cur,T,k1,k2,k3,k4,fun j=>hgivenK id hi g ?_ j,k6,fun j c hc=>?_⟩
  ·have k1' : (if id∈X0 given gm then μg id else μ id)=some g:=k1
   rwa [if_pos hi] at k1'
  ·obtain ⟨u,r1,r2,r3,-⟩:=k7 j c hc
   exact ⟨u,r1,r2,r3.mono huK (fun _ _ e=>e),fun n k cs E e=>by have:=hok.nob _ h1 c (Xc hc);rw [e] at this;simp [PV.ownB] at this⟩
 have hm1:∀(id:Nat) (X:PMap),(id,X)∈gm→Z6 (Mine Φ0 W) Φm μm ωm w id X:=by
  intro id X h1
  have hi:id∈X0 given gm:=List.mem_append.2 (.inr (List.mem_map.2 ⟨_,h1,rfl⟩))
  obtain ⟨g,k1,k2,k3,k4,k5⟩:=(hgm _ h1).lent (S:=fun i=>i∈X0 given gm) (B':=Mine Φ0 W) (ω':=ωm) hi (hok.lowm _ h1) (hok.nom _ h1) hμG (fun g e1 e2=>hωG id hi g e1 e2)
  have k1' : μg id=some g:=by
   have k1' : (if id∈X0 given gm then μg id else μ id)=some g:=k1
   rwa [if_pos hi] at k1'
  refine ⟨g,k1,k2,k3,fun j=>hgivenK id hi g k1' j,?_⟩
  cases X with
  |map es clock=>
   obtain ⟨e0,ents,e1,e2,e3⟩:=k5
   refine ⟨e0,ents,e1,e2,fun j s k c hj=>?_⟩
   obtain ⟨e,f1,f2,f3,f4,f5⟩:=e3 j s k c hj
   exact ⟨e,f1,f2,f3.mono huK (fun _ _ e=>e),f4.mono huK (fun _ _ e=>e),fun n kk cs E ec=>by have:=hok.nom _ h1 es clock rfl _ (Xc hj);simp only [ec] at this;simp [PV.ownB] at this⟩
  |iter mid since seen last=>
   obtain ⟨gm',e1,e2⟩:=k5
   exact ⟨gm',e1,e2⟩
 refine ⟨Φm,μm,ωm,h.below,h.defers,h.size,fun b o u e=>(hue b o u e).elim (h.imm b o u) (fun h=>hK b o u h.2),fun b o hb=>(hsame b o (fun u=>hold b o u hb)).trans (h.old b o hb),fun t=>(h.tmps t).mono hup hμm,fun t n k cs E e=>(h.own t n k cs E e).step (fun g eg=>hkeep _ trivial g eg),fun id bs e=>?_,fun id eb em=>?_,fun g p e=>?_,h.gmu,fun id g e hi=>?_,fun b o u e=>⟨hup _ _ _ (h.ext b o u e).1,(h.ext b o u e).2⟩,fun id X e=>?_,fun g p e=>?_⟩
 ·rcases Ku given _ hnd1.1 e with h1|⟨-,h1⟩
  ·exact hb1 id bs h1
  ·exact (h.box id bs h1).step hup hμm (fun q hq g e=>hkeep q trivial g e)
 ·have hi:id∉X0 given gm:=by
   intro hi
   rcases List.mem_append.1 hi with hi|hi
   ·obtain ⟨x,hx,rfl⟩:=List.mem_map.1 hi
    simp only [PS.addG] at eb
    rw [Vi given _ hnd1.1 x hx] at eb;cases eb
   ·obtain ⟨x,hx,rfl⟩:=List.mem_map.1 hi
    simp only [PS.addG] at em
    rw [Vi gm _ hnd1.2 x hx] at em;cases em
  show (if _ then _ else _)=_
  rw [if_neg hi]
  refine h.gone id ?_ ?_
  ·cases hs:σ.b id with
   |none=>rfl
   |some bs=>
    simp only [PS.addG] at eb
    rw [Va given σ.b (fun hh=>hi (List.mem_append.2 (.inl hh))),hs] at eb;cases eb
  ·cases hs:σ.m id with
   |none=>rfl
   |some bs=>
    simp only [PS.addG] at em
    rw [Va gm σ.m (fun hh=>hi (List.mem_append.2 (.inr hh))),hs] at em;cases em
 ·rcases hωc g p e with ⟨hg,-⟩|h'
  ·obtain ⟨i,-,-,-,-,h5⟩:=hlent hg
   exact h5
  ·exact h.lt g p h'
 ·show (if _ then _ else _)=_
  split
  ·rename_i hh;exact hkmu id hh g e
  ·rename_i hh
   refine h.kmu id g e ?_
   rcases hi with hi|hi
   ·left
    simp only [PS.addG] at hi
    rwa [Va given σ.b (fun hh' => hh (List.mem_append.2 (.inl hh')))] at hi
   ·right
    simp only [PS.addG] at hi
    rwa [Va gm σ.m (fun hh' => hh (List.mem_append.2 (.inr hh')))] at hi
 ·rcases Ku gm _ hnd1.2 e with h1|⟨-,h1⟩
  ·exact hm1 id X h1
  ·exact (h.map id X h1).step hup hμm (fun q hq g e=>hkeep q trivial g e)
 ·rcases hωc g p e with ⟨hg,-⟩|h'
  ·exact hmine g hg
  ·exact h.mine g p h'
open Classical in
theorem PW.rangeFuncG {g:Operand} {ps:Array Tmp} {assign body:Code} {f:FuncId} {caps:List PV} {given:List (Nat×List PV)} {gm:List (Nat×PMap)} {A S:List (List PV)→Prop} (o:Nat) (L:List Nat) (F:List (List PV)→PS) (I0:List (List PV)→Prop) (hI0:I0 [])
  (hg:pev σ g = .fn f caps) (hf:Nat.blt f 1000000=true) (hit:Xm9 P f caps given gm A S) (hok:Xdm given gm) (hgivb:AllB σ (fun _=>true) given) (hgivmm:AllM σ (fun _=>true) gm) (hfar:∀i∈X0 given gm,i+o∉L) (hin:SubR (fun i=>i - o) (Kn (F [])) σ (F []))
  (hk1:∀pre i,Kn (F pre) i→i∈L) (hk2:∀pre,∀i∈L,Kn (F pre) i) (hL:L.all (fun i=>Nat.ble o i)=true) (ho:1000000≤o) (hF:∀pre,X6i (F pre)) (hps:∀p∈ps.toList,p < M)
  (hx:∀pre x,A (pre ++ [x])→ps.toList.length=x.length∧∀p∈x,Low p∧p.ownB=false)
  (round:∀pre x,I0 pre→A (pre ++ [x])→PW P M assign (Xwj fun σ1=>PW P M body (X6p M o L (F pre).t (F (pre ++ [x])) (I0 (pre ++ [x])) (fun e σe=>(∀i∈X0 given gm,¬Kn σe i)∧Q e (σe.addG given gm))) σ1) (Xql (F pre) ps.toList x))
  (done:∀xs,S xs→I0 xs→∃σe,SubR (fun i=>i+o) (Kn σe) (F xs) σe∧(∀i∈X0 given gm,¬Kn σe i)∧Q .normal (σe.addG given gm)):PW P M (.rangeFunc g ps assign body) Q σ:=by
 intro Φ0 W a w ⟨Φ,μ,ω,hg0⟩
 refine wpIn_rangeFunc ?_
 intro fn hfn
 obtain ⟨l,ms,df,W1,hent,hl1,hlw,hkW,hnd,hms⟩:=Xvw (P:=P) hg0 fn ps assign body
 obtain ⟨rec,hrec⟩:∃rec:LoopState→Option Code→Loop,rec=fun st pe=>{ state:=st,pending:=pe,fn,tmps:=a.tmps,params:=ps,assign,body,defers:=df }:=⟨_,rfl⟩
 have hl1' : W1.heap[l]? = some (.loop (rec .ready none)):=by rw [hrec];exact hl1
 have hlW:l < W1.heap.size:=(Array.getElem?_eq_some_iff.1 hl1).1
 -- the iterator's value
 have hev:=hg0.ev g
 rw [hg] at hev
 have hlt:f < 1000000:=by simpa [Nat.blt_eq] using hf
 obtain ⟨us,hgv,hus⟩:∃us:List Value,a.eval g = .func (.func f) #[] us.toArray∧RepL Φ μ caps us:=by
  obtain ⟨us,e1,e2⟩:=hev.fn_inv
  refine ⟨us,?_,e2⟩
  rw [e1]
  unfold fnV
  rw [if_pos hlt]
 -- the caller's memory,under high numbers
 have hnum:∀i,Kn (F []) i→o≤i:=fun i hi=>Nat.le_of_ble_eq_true (List.all_eq_true.1 hL i (hk1 [] i hi))
 have hA:=hg0.fresh0 (mu:=fun _=>none) (fun _ _ e=>by cases e) (fun _ _ e=>by cases e)
 have hB:=hin.rel (fun i hi=>hi.spec) (fun i j hi hj e=>by have:=hnum i hi;have:=hnum j hj;have e' : i - o=j - o:=e;omega) (fun i hi g e=>by cases e) hA
 generalize hμ1:(fun i=>if Kn (F []) i then μ (i - o) else none)=μ1 at hB
 generalize hω1:(fun g=>unren (fun i=>i - o) (Kn (F [])) (ω g))=ω1 at hB
 obtain ⟨ω2,hC,hω2⟩:=hB.mixed (hF [])
 have hω:∀g p,ω2 g=some p→(∃q,ω g=some q)∧Mix Φ g∧g < w.heap.size:=by
  intro g p e
  have hlt':=hC.lt g p e
  rcases hC.mine g p e with h' | h'
  ·omega
  ·exact ⟨h',(hω2 g p e).2,hlt'⟩
 have hD:RelG (hg0.freshE fun _=>none) w M Φ μ1 ω2 (F []) a W1:=by
  refine hC.grow (hC.below.trans (hkW.mono fun b hb=>hb.1)) (fun b o u e=>?_) (fun _ _ _=>rfl) (fun _ _ _ e=>e) (fun g p e=>⟨hkW.block g (hω g p e).2.2,fun _=>rfl⟩) hkW.size
  have:=hg0.imm b o u e
  simp only [World.cell?] at this ⊢
  rw [hkW.block b (RelG.fresh hg0 e)];exact this
 have hω2l:∀p,ω2 l≠some p:=fun p e=>by have:=(hω l p e).2.2;omega
 have hΦl:∀j,Φ l j=none:=fun j=>by
  cases hh:Φ l j with
  |none=>rfl
  |some u=>have:=RelG.fresh hg0 hh;omega
 have hmixl:Mix Φ l:=fun o u e=>by rw [hΦl] at e;cases e
 -- what is lent
 have hgb0:∀x∈given,V2 (Mine Φ0 W) Φ μ ω w x.1 x.2:=fun x hx=>hg0.box x.1 x.2 (hgivb.mem x hx).2
 have hgm0:∀x∈gm,Z6 (Mine Φ0 W) Φ μ ω w x.1 x.2:=fun x hx=>hg0.map x.1 x.2 (hgivmm.mem x hx).2
 have hlent:=fun {g:Nat} (hg:Z5 μ (X0 given gm) g)=>Xai hgb0 hgm0 hg
 have hkG:∀i∈X0 given gm,σ.b i≠none∨σ.m i≠none:=by
  intro i hi
  rcases List.mem_append.1 hi with hi|hi
  ·obtain ⟨x,hx,rfl⟩:=List.mem_map.1 hi
   left;rw [(hgivb.mem x hx).2];simp
  ·obtain ⟨x,hx,rfl⟩:=List.mem_map.1 hi
   right;rw [(hgivmm.mem x hx).2];simp
 have hLmix:∀g,Z5 μ (X0 given gm) g→Mix Φ g:=fun g hg=>by
  obtain ⟨i,-,-,-,h4,-⟩:=hlent hg
  intro o u e;rw [h4] at e;cases e
 have hLω2:∀g,Z5 μ (X0 given gm) g→∀p,ω2 g≠some p:=by
  intro g hg p e
  obtain ⟨i,hi,-,h3,-⟩:=hlent hg
  have e1:=(hω2 g p e).1
  rw [←hω1] at e1
  have e2:unren (fun i=>i - o) (Kn (F [])) (ω g)=some p:=e1
  rw [h3] at e2
  unfold unren at e2
  split at e2
  ·rename_i h2;cases h2
  ·split at e2
   ·rename_i hh
    obtain ⟨q,⟨j,hj,hq⟩,e⟩:=hh
    rcases hq with rfl|⟨y,rfl⟩
    ·simp only [renW,Option.some.injEq,Who.box.injEq] at e
     have hjo:=hnum j hj
     refine hfar i hi ?_
     rw [e,Nat.sub_add_cancel hjo]
     exact hk1 [] j hj
    ·simp [renW] at e
   ·cases e2
 let Φr:Ent:=⟨Φ,fun g=>(∃p,ω2 g=some p)∨(g=l∨Z5 μ (X0 given gm) g),μ1,hg0.glob,fun g hg' => hg'.elim (fun ⟨p,e⟩=>(hω g p e).2.1) (fun e=>e.elim (fun e=>e ▸ hmixl) (hLmix g)),ms ++ Φ0.marks,Φ0.round⟩
 let a0:Act:={ a with defers:=ms.map X7u ++ a.defers }
 have hμk:∀i g,μ1 i=some g→Kn (F []) i∧μ (i - o)=some g:=by
  intro i g e
  rw [←hμ1] at e
  have e' : (if Kn (F []) i then μ (i - o) else none)=some g:=e
  split at e'
  ·rename_i hk;exact ⟨hk,e'⟩
  ·cases e'
 have hR:RelG Φr W1 M Φ μ1 ω2 (F []) a0 W1:=by
  refine hD.rebaseA rfl (Kept.refl _ _) ⟨?_,fun l0 e=>?_⟩ (fun b o hb=>rfl) (fun i g e=>Nat.le_trans ho (hnum i (hμk i g e).1)) (fun i g e _=>e) (fun b o u e=>⟨e,Nat.lt_of_lt_of_le (RelG.fresh hg0 e) hkW.size⟩) (fun g p e=>.inr (.inl ⟨p,e⟩))
  ·show ms.map X7u ++ a.defers=(ms ++ Φ0.marks).map X7u
   rw [hg0.defers.1,List.map_append]
  ·obtain ⟨q1,q2,r,q3⟩:=hg0.rnd e
   refine ⟨⟨Nat.lt_of_lt_of_le q1 hkW.size,fun hh=>?_⟩,r,(hkW.block l0 q1).trans q3⟩
   rcases hh with ⟨p,hp⟩|rfl|hh
   ·obtain ⟨⟨q,hq⟩,-⟩:=hω l0 p hp;exact q2 q hq
   ·omega
   ·obtain ⟨i,-,-,h3,-⟩:=hlent hh;exact q2 _ h3
 have hlold:¬Old Φr W1 l:=fun hh=>hh.2 (.inr (.inl rfl))
 have hLold:∀g,Z5 μ (X0 given gm) g→¬Old Φr W1 g:=fun g hg hh=>hh.2 (.inr (.inr hg))
 have hLlt:∀g,Z5 μ (X0 given gm) g→g < w.heap.size:=fun g hg=>by obtain ⟨i,-,-,-,-,h5⟩:=hlent hg;exact h5
 have hLl:¬Z5 μ (X0 given gm) l:=fun hg=>by have:=hLlt l hg;omega
 -- what is known of the caller's memory
 let Out:Code→PS→PS→Prop:=fun c G σe=>(∀i,Kn G i→i∈L)∧SubR (fun i=>i+o) (Kn σe) G σe∧(∀i∈X0 given gm,¬Kn σe i)∧(match c with | .ret=>Q .ret (σe.addG given gm) | .exit i=>Q (.exit i) (σe.addG given gm) | .goto i=>Q (.goto i) (σe.addG given gm)|_=>False)
 let J:Come→(Nat→Prop)→Imm→World→Prop:=fun κ I K w' => l < w'.heap.size∧match κ with
  |some pre=>I0 pre∧w'.heap[l]? = some (.loop (rec .ready none))∧CJ Φr W1 M a0 l (F pre) I K w'
  |none=>∃c G σe,Out c G σe∧w'.heap[l]? = some (.loop (rec .done (some c)))∧CJ Φr W1 M a0 l G I K w'
 let E:Xag:=⟨J,fun {κ I I' K K' w1 w2} hJ hk hI hK hc=>by
  obtain ⟨hlt',hJ⟩:=hJ
  have hnl:∀{G:PS},CJ Φr W1 M a0 l G I K w1→w2.heap[l]? = w1.heap[l]?:=fun hcj=>hk.block l ⟨hlt',fun hi=>by obtain ⟨_,_,_,_,_,_,_,h4⟩:=hcj;exact (h4 l hi).2 rfl⟩
  refine ⟨Nat.lt_of_lt_of_le hlt' hk.size,?_⟩
  cases κ with
  |some pre=>exact ⟨hJ.1,(hnl hJ.2.2).trans hJ.2.1,hJ.2.2.step hlt' hk hI hK hc⟩
  |none=>
   obtain ⟨c,G,σe,h1,h2,h3⟩:=hJ
   exact ⟨c,G,σe,h1,(hnl h3).trans h2,h3.step hlt' hk hI hK hc⟩⟩
 have hJ0:E.J (some []) (Z5 μ (X0 given gm)) Φ W1:=⟨hlW,hI0,hl1',Φ,μ1,ω2,hR,hLω2,hω2l,fun b o u h e=>e,fun g h=>⟨hLold g h,fun e=>hLl (e ▸ h)⟩⟩
 have hY:YOK P E l A Φ (Z5 μ (X0 given gm)) W1.heap.size:=by
  intro pre x I K w1 vs hAx hJ hI hLI hK hK1 hK2 hKg hrep
  obtain ⟨hlt',hip,hlr,hcj⟩:=hJ
  obtain ⟨hxl,hxx⟩:=hx pre x hAx
  have hy:=run_yield (P:=P) (args:=vs.toArray) hlr (by rw [hrec];have:=hrep.1;simp at hxl ⊢; omega)
  rw [hrec] at hy
  refine ⟨fn,_,assign,body,hy,?_⟩
  have hrs:=Xl4 (Φe:=Φ) (r0:=rec .ready none) (Lb:=Z5 μ (X0 given gm)) hLI hLold hLl (Q:=fun e σe=>(∀i∈X0 given gm,¬Kn σe i)∧Q e (σe.addG given gm)) (o:=o) (L:=L) (F:=F pre) (F':=F (pre ++ [x])) (ps:=ps.toList) (x:=x) (fun g h1 h2 h3=>by
    rcases h2 with h2|h2
    ·omega
    ·exact Φr.fl g h2) rfl (fun i g e=>hk2 pre i (hk1 [] i (hμk i g e).1)) (fun i hi=>Nat.le_trans ho (Nat.le_of_ble_eq_true (List.all_eq_true.1 hL i (hk1 pre i hi)))) hlW hlold hmixl (hF pre) hps hxl hxx (by rw [Xo7];exact round pre x hip hAx) hcj hlr (by rw [hrec]) hI hK hK1 hK2 hrep
  have htm:(ps.zip vs.toArray).foldl (fun tmps (t,a)=>tmps.setIfInBounds t a) a.tmps=(ps.toList.zip vs).foldl (fun t (p,v)=>t.setIfInBounds p v) a0.tmps:=by
   rw [←Array.foldl_toList,Array.toList_zip]
  refine roundIn_of_wpIn trivial ?_
  simp only
  rw [htm]
  refine wpIn_mono hrs ?_
  rintro e a1 w2 hq
  cases e with
  |normal=>?_
  |_=>exact hq
  obtain ⟨w3,hbr,hbody⟩:=hq
  refine ⟨w3,hbr,wpIn_mono hbody ?_⟩
  rintro e a3 w4 ⟨⟨hl4,hk4,hK4⟩,hq⟩
  have hl4' : l < w4.heap.size:=(Array.getElem?_eq_some_iff.1 hl4).1
  have hnl:∀g,(I g∨(g < W1.heap.size∧¬Mix Φ g))→g≠l:=by
   rintro g (hi|⟨-,h2⟩) rfl
   ·rcases (hI g hi).1 with h' | h'
    ·omega
    ·exact hLl h'
   ·exact h2 hmixl
  have fin:∀(jump:Option Code),(J (if jump.isNone then some (pre ++ [x]) else none) I K (w4.putObj l (.loop (rec (if jump.isNone then .ready else .done) jump))))→∃v w',(Instr.endRound l jump).run P w4 = .ok v w'∧(fun e w2=>∃b:Bool,e=Ending.returned (.bool b)∧E.J (if b then some (pre ++ [x]) else none) I K w2∧Kept (fun g=>I g∨(g < W1.heap.size∧¬Mix Φ g)) w1 w2∧(∀b o u,K b o=some u→w2.cell? ⟨b,o,none⟩=some u)) (.returned v) w':=by
   intro jump hJ'
   have:=run_endRound (P:=P) jump hl4
   rw [hrec] at this hJ'
   refine ⟨_,_,this,jump.isNone,rfl,hJ',hk4.trans ⟨rfl,rfl,rfl,S_,fun k hk=>World.putObj_heap_other (hnl k hk)⟩,fun b o u e=>X74 (X49 hl4) (hK4 b o u e)⟩
  have same:∀r',(w4.putObj l (.loop r')).heap[l]? = some (.loop r'):=fun r' => World.putObj_heap_same hl4'
  cases e with
  |normal=>exact fin none ⟨by simpa using hl4',hq.1,same _,CJ.putLoop hq.2 hl4 hlold _⟩
  |ret=>
   obtain ⟨G,σe,h1,h2,h3,h4,h5⟩:=hq
   exact fin (some .ret) ⟨by simpa using hl4', .ret,G,σe,⟨h2,h3,h4,h5⟩,same _,CJ.putLoop h1 hl4 hlold _⟩
  |exit i=>
   obtain ⟨G,σe,h1,h2,h3,h4,h5⟩:=hq
   exact fin (some (.exit i)) ⟨by simpa using hl4', .exit i,G,σe,⟨h2,h3,h4,h5⟩,same _,CJ.putLoop h1 hl4 hlold _⟩
  |goto i=>
   obtain ⟨G,σe,h1,h2,h3,h4,h5⟩:=hq
   exact fin (some (.goto i)) ⟨by simpa using hl4', .goto i,G,σe,⟨h2,h3,h4,h5⟩,same _,CJ.putLoop h1 hl4 hlold _⟩
  |panic ch=>exact hq.elim
  |outgrown=>exact hq.elim
 -- the call of the iterator
 refine ⟨l,ms.map X7u,W1,{ target:=.fn (.func f) us.toArray,args := #[.func (.yield l) #[] #[]] },W1,f,#[.func (.yield l) #[] #[]] ++ us.toArray,W1,hent,?_,fun f' _=>trivial,?_,(fun e=>by cases e),?_⟩
 ·simp only [resolve,hgv]
  simp [go_sem]
 ·simp [invoke,go_sem,X31 hit.1]
 have hW1:∀g,g < w.heap.size→W1.heap[g]? = w.heap[g]?:=fun g hg=>hkW.block g hg
 have hgb1:∀x∈given,V2 (fun _=>True) Φ μ ω W1 x.1 x.2:=fun x hx=>by
  obtain ⟨g,cur,T,k1,k2,k3,k4,k5,k6,k7⟩:=hgb0 x hx
  refine ⟨g,cur,T,k1,by rw [hW1 g (hg0.lt g _ k4)];exact k2,trivial,k4,k5,k6,fun j c hc=>?_⟩
  obtain ⟨u,r1,r2,r3,-⟩:=k7 j c hc
  exact ⟨u,r1,r2,r3,fun n k cs E e=>by have:=hok.nob x hx c (Xc hc);rw [e] at this;simp [PV.ownB] at this⟩
 have hgm1:∀x∈gm,Z6 (fun _=>True) Φ μ ω W1 x.1 x.2:=fun x hx=>by
  obtain ⟨g,k1,k2,k3,k4,k5⟩:=hgm0 x hx
  refine ⟨g,k1,trivial,k3,k4,?_⟩
  obtain ⟨xi,X⟩:=x
  cases X with
  |map es clock=>
   obtain ⟨e0,ents,e1,e2,e3⟩:=k5
   refine ⟨e0,ents,by rw [hW1 g (hg0.lt g _ k3)];exact e1,e2,fun j s k c hj=>?_⟩
   obtain ⟨e,f1,f2,f3,f4,f5⟩:=e3 j s k c hj
   exact ⟨e,f1,f2,f3,f4,fun n kk cs E ec=>by have:=hok.nom _ hx es clock rfl _ (Xc hj);simp only [ec] at this;simp [PV.ownB] at this⟩
  |iter mid since seen last=>
   obtain ⟨gm',e1,e2⟩:=k5
   exact ⟨gm',e1,by rw [hW1 g (hg0.lt g _ k3)];exact e2⟩
 refine (Calls.inW (hit.2 E l Φ μ ω W1 us hR.imm hg0.glob hus hgb1 hgm1 hY hJ0)).mono ?_
 rintro e w2 ⟨v,κ,K,I,rfl,hS,⟨hlt2,hJ2⟩,hLI,hKi,hK1,hK2,-,hgb2,hgm2⟩
 -- behind the loop
 have back:∀(G σe:PS) (r' : Loop),(∀i,Kn G i→i∈L)→SubR (fun i=>i+o) (Kn σe) G σe→(∃r,w2.heap[l]? = some (.loop r))→CJ Φr W1 M a0 l G I K w2→(∀i∈X0 given gm,¬Kn σe i)→∃Φe We,Z4 Φ0 W Φe We∧Rel Φe We M (σe.addG given gm) a0 (w2.putObj l (.loop r')):=by
  rintro G σe r' hGL hsub ⟨r,hlr⟩ hcj hfree
  obtain ⟨Φ3,μ3,ω3,h3,h3I,h3l,h3K,-⟩:=hcj.putLoop hlr hlold (.loop r')
  have h4:=hsub.rel (fun i hi=>hi.spec) (fun i j hi hj e=>by have e' : i+o=j+o:=e;omega) (fun i hi g e=>by cases e) (h3.fresh0 (mu:=fun _=>none) (fun _ _ e=>by cases e) (fun _ _ e=>by cases e))
  have hext:∀b o u,Φ0.imm b o=some u→Φ b o=some u∧b < W.heap.size:=hg0.ext
  have hWw:=hg0.below.size
  have hwW:=hkW.size
  have hold0:∀b,Old Φ0 W b→b < w.heap.size∧Old Φr W1 b:=by
   intro b hb
   have h1:b < w.heap.size:=Nat.lt_of_lt_of_le hb.1 hWw
   refine ⟨h1,Nat.lt_of_lt_of_le h1 hwW,fun hh=>?_⟩
   rcases hh with ⟨p,hp⟩|rfl|hh
   ·obtain ⟨⟨q,hq⟩,-⟩:=hω b p hp;exact hg0.noOld hb q hq
   ·omega
   ·obtain ⟨i,-,-,h3,-⟩:=hlent hh;exact hg0.noOld hb _ h3
  have holdm:∀m∈ms,Old Φr W1 m:=by
   intro m hm
   obtain ⟨q1,q2,q3,q4⟩:=hms m hm
   refine ⟨q2,fun hh=>?_⟩
   rcases hh with ⟨p,hp⟩|rfl|hh
   ·have:=(hω m p hp).2.2;omega
   ·exact q3 rfl
   ·have:=hLlt m hh;omega
  have hfl:∀g,(Mine Φ0 W g∧g < W1.heap.size∧g∉ms)→Mix Φ0.imm g:=by
   rintro g ⟨h',-⟩
   rcases h' with h' | h'
   ·intro o u e;have:=(hext g o u e).2;omega
   ·exact Φ0.fl g h'
  let Φe:Ent:=⟨Φ0.imm,fun g=>Mine Φ0 W g∧g < W1.heap.size∧g∉ms,Φ0.mu,Φ0.glob,hfl,ms ++ Φ0.marks,Φ0.round⟩
  have holdc:∀b,Old Φe W1 b→Old Φ0 W b∨b∈ms:=by
   rintro b ⟨hb1,hb2⟩
   by_cases hm:b∈ms
   ·exact .inr hm
   ·left
    by_cases hmi:Mine Φ0 W b
    ·exact absurd ⟨hmi,hb1,hm⟩ hb2
    ·exact ⟨Nat.lt_of_not_le fun hh=>hmi (.inl hh),fun hh=>hmi (.inr hh)⟩
  have holde:∀b,Old Φ0 W b→Old Φe W1 b:=fun b hb=>⟨(hold0 b hb).2.1,fun hh=>hh.1.ne hb rfl⟩
  have hkW0:Kept (Old Φ0 W) W W1:=hg0.below.trans (hkW.mono fun b hb=>(hold0 b hb).1)
  have hlat:Z4 Φ0 W Φe W1:=by
   refine ⟨rfl,rfl,rfl,hkW0,holde,fun g hg' => ?_,fun b hb=>(holdc b hb).imp id (fun h=>List.mem_append.2 (.inl h)),fun _ b o u e=>(hext b o u e).2,ms,rfl,hnd,fun m hm=>?_⟩
   ·rcases hg' with h' | h'
    ·exact .inl (Nat.le_trans hkW0.size h')
    ·exact h'.1
   ·obtain ⟨q1,q2,q3,q4⟩:=hms m hm
    exact ⟨Nat.le_trans hWw q1,⟨q2,fun hh=>hh.2.2 hm⟩,q4⟩
  have hmineL:∀g,Z5 μ (X0 given gm) g→Mine Φe W1 g:=fun g hg=>by
   obtain ⟨i,-,-,q3,-⟩:=hlent hg
   refine .inr ⟨hg0.mine g _ q3,Nat.lt_of_lt_of_le (hLlt g hg) hwW,fun hm=>?_⟩
   have:=(hms g hm).1;have:=hLlt g hg;omega
  have hKlow:∀b o u,b < W1.heap.size→¬Z5 μ (X0 given gm) b→K b o=some u→Φ3 b o=some u:=fun b o u hb hn e=>(h3.ext b o u (by rw [hK1 b o hb hn] at e;exact e)).1
  have h4ω:∀g p,unren (fun i=>i+o) (Kn σe) (ω3 g)=some p→∃q,ω3 g=some q:=by
   intro g p e
   cases hh:ω3 g with
   |none=>
    rw [hh] at e
    unfold unren at e
    simp at e
   |some q=>exact ⟨q,rfl⟩
  have hrb:RelG Φe W1 M Φ3 _ _ σe a0 (w2.putObj l (.loop r')):=h4.rebase (h3.below.mono fun b hb=>?_) ⟨?_,fun l0 e=>?_⟩ (fun b o hb=>?_) hg0.gmu (fun i g e hi=>?_) (fun b o u e=>?_) (fun g p e=>?_)
  ·have hput:∀g,Z5 μ (X0 given gm) g→(w2.putObj l (.loop r')).heap[g]? = w2.heap[g]?:=fun g hg=>World.putObj_heap_other (fun e=>hLl (e ▸ hg))
   refine ⟨Φe,W1,hlat,hrb.addG hok (K:=K) (μg:=μ) (ωg:=ω) (fun x hx=>?_) (fun x hx=>?_) (fun b o u e=>X74 (X49 hlr) (hKi b o u e)) hfree (fun i hi g e=>hg0.kmu i g e (hkG i hi)) hmineL (fun b o u hb e=>?_) (fun g hg p e=>?_) (fun g p e j u ek=>?_) (fun g hg j=>?_)⟩
   ·have hi:x.1∈X0 given gm:=List.mem_append.2 (.inl (List.mem_map.2 ⟨x,hx,rfl⟩))
    obtain ⟨g,cur,T,k1,k2,k3,k4,k5,k6,k7⟩:=hgb2 x hx
    refine ⟨g,cur,T,k1,by rw [hput g ⟨_,hi,k1⟩];exact k2,trivial,k4,k5,k6,fun j c hc=>?_⟩
    obtain ⟨u,r1,r2,r3,-⟩:=k7 j c hc
    exact ⟨u,r1,r2,r3,fun n k cs E e=>by have:=hok.nob x hx c (Xc hc);rw [e] at this;simp [PV.ownB] at this⟩
   ·have hi:x.1∈X0 given gm:=List.mem_append.2 (.inr (List.mem_map.2 ⟨x,hx,rfl⟩))
    obtain ⟨g,k1,k2,k3,k4,k5⟩:=hgm2 x hx
    refine ⟨g,k1,trivial,k3,k4,?_⟩
    have hp:=hput g ⟨_,hi,k1⟩
    obtain ⟨xi,X⟩:=x
    cases X with
    |map es clock=>
     obtain ⟨e0,ents,e1,e2,e3⟩:=k5
     refine ⟨e0,ents,by rw [hp];exact e1,e2,fun j s k c hj=>?_⟩
     obtain ⟨e,f1,f2,f3,f4,f5⟩:=e3 j s k c hj
     exact ⟨e,f1,f2,f3,f4,fun n kk cs E ec=>by have:=hok.nom _ hx es clock rfl _ (Xc hj);simp only [ec] at this;simp [PV.ownB] at this⟩
    |iter mid since seen last=>
     obtain ⟨gm',e1,e2⟩:=k5
     exact ⟨gm',e1,by rw [hp];exact e2⟩
   ·exact hKlow b o u hb.1 (fun hl=>(hmineL b hl).ne hb rfl) e
   ·obtain ⟨q,hq⟩:=h4ω g p e
    exact h3I g (hLI g hg) q hq
   ·obtain ⟨q,hq⟩:=h4ω g p e
    rcases Nat.lt_or_ge g W1.heap.size with hlt|hge
    ·refine hKlow g j u hlt (fun hl=>h3I g (hLI g hl) q hq) ek
    ·exact absurd hq (h3I g (hK2 g j u hge ek) q)
   ·cases hh:Φ3 g j with
    |none=>rfl
    |some u=>
     have e1:=h3K g j u (hLI g hg) hh
     obtain ⟨i,-,-,-,h5,-⟩:=Xai hgb2 hgm2 hg
     rw [h5] at e1;cases e1
  ·rcases holdc b hb with h' | h'
   ·exact (hold0 b h').2
   ·exact holdm b h'
  ·exact h3.defers.1
  ·obtain ⟨q1,q2⟩:=hg0.defers.2 l0 e
   obtain ⟨r0,q2⟩:=q2
   exact ⟨holde l0 q1,r0,(hkW0.block l0 q1).trans q2⟩
  ·rcases holdc b hb with h' | h'
   ·rw [h3.old b o (hold0 b h').2]
    exact hg0.old b o h'
   ·obtain ⟨q1,q2,q3,q4⟩:=hms b h'
    rw [h3.old b o (holdm b h')]
    show Φ b o=Φ0.imm b o
    have e1:Φ b o=none:=by
     cases hh:Φ b o with
     |none=>rfl
     |some u=>have:=RelG.fresh hg0 hh;omega
    have e2:Φ0.imm b o=none:=by
     cases hh:Φ0.imm b o with
     |none=>rfl
     |some u=>have:=(hext b o u hh).2;omega
    rw [e1,e2]
  ·have hSi:Kn σe i∧Kn G (i+o):=by
    rcases hi with hi|hi
    ·obtain ⟨qs,hqs⟩:=Option.ne_none_iff_exists'.1 hi
     obtain ⟨h1,ps',h2,-⟩:=hsub.b i qs hqs
     exact ⟨h1,Kn.ofb h2⟩
    ·obtain ⟨qs,hqs⟩:=Option.ne_none_iff_exists'.1 hi
     obtain ⟨h1,ps',h2,-⟩:=hsub.m i qs hqs
     exact ⟨h1,Kn.ofm h2⟩
   have hkF:Kn (F []) (i+o):=hk2 [] _ (hGL _ hSi.2)
   have hσ:σ.b i≠none∨σ.m i≠none:=by
    rcases hkF.spec with h' | h'
    ·obtain ⟨qs,hqs⟩:=Option.ne_none_iff_exists'.1 h'
     obtain ⟨-,ps',h2,-⟩:=hin.b _ qs hqs
     left;simp only [Nat.add_sub_cancel] at h2;rw [h2];simp
    ·obtain ⟨qs,hqs⟩:=Option.ne_none_iff_exists'.1 h'
     obtain ⟨-,ps',h2,-⟩:=hin.m _ qs hqs
     right;simp only [Nat.add_sub_cancel] at h2;rw [h2];simp
   have h5:μ i=some g:=hg0.kmu i g e hσ
   have h6:μ1 (i+o)=some g:=by
    rw [←hμ1]
    show (if _ then _ else _)=_
    rw [if_pos hkF,Nat.add_sub_cancel];exact h5
   show (if Kn σe i then μ3 (i+o) else none)=some g
   rw [if_pos hSi.1]
   exact h3.kmu (i+o) g h6 hSi.2.spec
  ·have h':=hext b o u e
   exact ⟨(h3.ext b o u h'.1).1,Nat.lt_of_lt_of_le h'.2 (Nat.le_trans hWw hwW)⟩
  ·have h' : ∃q,ω3 g=some q:=by
    have h1:=h4.mine g p e
    have h2:=h4.lt g p e
    rcases h1 with h1|h1
    ·simp at h1 h2;omega
    ·exact h1
   obtain ⟨q,hq⟩:=h'
   have hgl:g≠l:=by rintro rfl;exact h3l q hq
   rcases h3.mine g q hq with h1|h1
   ·exact .inl h1
   ·rcases h1 with ⟨p',hp'⟩|h1|h1
    ·obtain ⟨⟨q',hq'⟩,-,hlt'⟩:=hω g p' hp'
     refine .inr ⟨hg0.mine g q' hq',Nat.lt_of_lt_of_le hlt' hwW,fun hm=>?_⟩
     have:=(hms g hm).1;omega
    ·exact absurd h1 hgl
    ·exact absurd hq (h3I g (hLI g h1) q)
 cases κ with
 |some xs=>
  obtain ⟨hip,hlr,hcj⟩:=hJ2
  obtain ⟨σe,h1,hfr,h2⟩:=done xs (hS xs rfl) hip
  have hend:=run_endLoop (P:=P) hlr (by rw [hrec];simp)
  rw [hrec] at hend
  obtain ⟨Φe,We,h3,h4⟩:=back (F xs) σe { rec .ready none with state:=.exhausted } (fun i hi=>hk1 xs i hi) h1 ⟨_,hlr⟩ hcj hfr
  rw [hrec] at h4
  exact ⟨none,_,hend,σe.addG given gm,Φe,We,h2,h3,h4⟩
 |none=>
  obtain ⟨c,G,σe,⟨h1,h2,hfr,h3⟩,hlr,hcj⟩:=hJ2
  have hend:=run_endLoop (P:=P) hlr (by rw [hrec];simp)
  rw [hrec] at hend
  obtain ⟨Φe,We,h4,h5⟩:=back G σe { rec .done (some c) with state:=.exhausted } h1 h2 ⟨_,hlr⟩ hcj hfr
  rw [hrec] at h5
  refine ⟨some c,_,hend,?_⟩
  simp only
  cases c with
  |ret=>exact wpIn_ret ⟨σe.addG given gm,Φe,We,h3,h4,h5⟩
  |exit i=>exact wpIn_exit ⟨σe.addG given gm,Φe,We,h3,h4,h5⟩
  |goto i=>exact wpIn_goto ⟨σe.addG given gm,Φe,We,h3,h4,h5⟩
  |_=>exact h3.elim
theorem X6p.mono {o:Nat} {L:List Nat} {T:Nat→PV} {F' : PS} {Ip:Prop} {Q Q' : Exit→PS→Prop} (hq:∀e σ,Q e σ→Q' e σ) {e:Exit} {σ:PS} (h:X6p M o L T F' Ip Q e σ):X6p M o L T F' Ip Q' e σ:=by
 cases e with
 |normal=>exact h
 |ret=>obtain ⟨h1,G,σe,h2,h3,h4,h5⟩:=h;exact ⟨h1,G,σe,h2,h3,h4,hq _ _ h5⟩
 |exit i=>obtain ⟨h1,G,σe,h2,h3,h4,h5⟩:=h;exact ⟨h1,G,σe,h2,h3,h4,hq _ _ h5⟩
 |goto i=>obtain ⟨h1,G,σe,h2,h3,h4,h5⟩:=h;exact ⟨h1,G,σe,h2,h3,h4,hq _ _ h5⟩
 |panic ch=>exact h
 |outgrown=>exact h
theorem PW.rangeFunc {g:Operand} {ps:Array Tmp} {assign body:Code} {f:FuncId} {caps:List PV} {A S:List (List PV)→Prop} (o:Nat) (L:List Nat) (F:List (List PV)→PS) (I0:List (List PV)→Prop) (hI0:I0 [])
  (hg:pev σ g = .fn f caps) (hf:Nat.blt f 1000000=true) (hlow:∀p∈caps,Low p) (hit:Xsy P f caps A S) (hin:SubR (fun i=>i - o) (Kn (F [])) σ (F []))
  (hk1:∀pre i,Kn (F pre) i→i∈L) (hk2:∀pre,∀i∈L,Kn (F pre) i) (hL:L.all (fun i=>Nat.ble o i)=true) (ho:1000000≤o) (hF:∀pre,X6i (F pre)) (hps:∀p∈ps.toList,p < M)
  (hx:∀pre x,A (pre ++ [x])→ps.toList.length=x.length∧∀p∈x,Low p∧p.ownB=false)
  (round:∀pre x,I0 pre→A (pre ++ [x])→PW P M assign (Xwj fun σ1=>PW P M body (X6p M o L (F pre).t (F (pre ++ [x])) (I0 (pre ++ [x])) Q) σ1) (Xql (F pre) ps.toList x))
  (done:∀xs,S xs→I0 xs→∃σe,SubR (fun i=>i+o) (Kn σe) (F xs) σe∧Q .normal σe):PW P M (.rangeFunc g ps assign body) Q σ:=
 PW.rangeFuncG o L F I0 hI0 hg hf hit Xdm.nil trivial trivial (by simp [X0]) hin hk1 hk2 hL ho hF hps hx (fun pre x h1 h2=>(round pre x h1 h2).conseq fun e σ h=>by
  cases e with
  |normal=>exact PW.conseq h fun e σ h=>X6p.mono (fun e σ h=>⟨by simp [X0],h⟩) h
  |_=>exact h) (fun xs h1 h2=>by
  obtain ⟨σe,k1,k2⟩:=done xs h1 h2
  exact ⟨σe,k1,by simp [X0],k2⟩)
end
section
open Go.RowKit
theorem Z9 (w:World) (o:Obj):Below w.heap.size w (w.alloc o):=(Below.refl _ _).alloc (Nat.le_refl _) _
def RdS (w:World) (v:Value) (k:Nat) (rows:List (List Value)):Prop:=
 ∃a cap b off,v = .slice a rows.length cap∧rows.length≤cap∧cap≤maxLen∧(0 < rows.length→a=some ⟨b,off,none⟩) ∧
  ∀i j r u,rows[i]? = some r→r[j]? = some u→w.cell? ⟨b,off+i * k+j,none⟩=some u
theorem RdS.below {w w' : World} {v:Value} {k:Nat} {rows:List (List Value)} (h:RdS w v k rows) (hb:Below w.heap.size w w'):RdS w' v k rows:=by
 obtain ⟨a,cap,b,off,h1,h2,h3,h4,h5⟩:=h
 exact ⟨a,cap,b,off,h1,h2,h3,h4,fun i j r u hr hu=>Xz hb (h5 i j r u hr hu)⟩
def Strs (w:World) (v:Value) (l:List ByteArray):Prop:=Rd w v (l.map Value.string)
theorem Strs.below {w w' : World} {v:Value} {l:List ByteArray} (h:Strs w v l) (hb:Below w.heap.size w w'):Strs w' v l:=Rd.below h hb
theorem Ints.below {w w' : World} {v:Value} {l:List Int} (h:Ints w v l) (hb:Below w.heap.size w w'):Ints w' v l:=Rd.below h hb
theorem X7g.below {w w' : World} {v:Value} {l:List Int} (h:X7g w v l) (hb:Below w.heap.size w w'):X7g w' v l:=Rd.below h hb
theorem Strs.open {w:World} {v:Value} {l:List ByteArray} (h:Strs w v l):∃a cap b off,v = .slice a l.length cap∧l.length≤cap∧cap≤maxLen ∧
  (0 < l.length→a=some ⟨b,off,none⟩)∧Hid (∀j x,l[j]? = some x→w.cell? ⟨b,off+j,none⟩=some (.string x)):=by
 obtain ⟨a,cap,b,off,h1,h2,h3,h4,h5⟩:=h
 simp only [List.length_map] at h1 h2 h4
 exact ⟨a,cap,b,off,h1,h2,h3,h4,fun j x hx=>h5 j _ (by simp [hx])⟩
def Xwb (a:Yn):List Value := [.string a.name, .int .i64 a.kind, .int .i64 a.n, .string a.s]
def Yah (a:Yn):Value:=.agg #[.string a.name, .int .i64 a.kind, .int .i64 a.n, .string a.s]
def Xgr (w:World) (v:Value) (l:List Yn):Prop:=RdS w v 4 (l.map Xwb)
theorem Xgr.below {w w' : World} {v:Value} {l:List Yn} (h:Xgr w v l) (hb:Below w.heap.size w w'):Xgr w' v l:=RdS.below h hb
def X3f (w:World) (b off:Nat) (x:Yn):Prop:=
 w.cell? ⟨b,off,none⟩=some (.string x.name)∧w.cell? ⟨b,off+1,none⟩=some (.int .i64 x.kind)∧w.cell? ⟨b,off+2,none⟩=some (.int .i64 x.n)∧w.cell? ⟨b,off+3,none⟩=some (.string x.s)
theorem X3f.below {w w' : World} {b off:Nat} {x:Yn} (h:X3f w b off x) (hb:Below w.heap.size w w'):X3f w' b off x:=
 ⟨Xz hb h.1,Xz hb h.2.1,Xz hb h.2.2.1,Xz hb h.2.2.2⟩
theorem X3f.lt {w:World} {b off:Nat} {x:Yn} (h:X3f w b off x):b < w.heap.size:=World.block_lt_of_cell? _ _ h.1
theorem Xgr.open {w:World} {v:Value} {l:List Yn} (h:Xgr w v l):∃a cap b off,v = .slice a l.length cap∧l.length≤cap∧cap≤maxLen ∧
  (0 < l.length→a=some ⟨b,off,none⟩)∧Hid (∀i x,l[i]? = some x→X3f w b (off+i * 4) x):=by
 obtain ⟨a,cap,b,off,h1,h2,h3,h4,h5⟩:=h
 simp only [List.length_map] at h1 h2 h4
 refine ⟨a,cap,b,off,h1,h2,h3,h4,fun i x hx=>?_⟩
 have e:(l.map Xwb)[i]? = some (Xwb x):=by simp [hx]
 exact ⟨h5 i 0 _ _ e rfl,h5 i 1 _ _ e rfl,h5 i 2 _ _ e rfl,h5 i 3 _ _ e rfl⟩
def Xbi (w:World) (b off:Nat) (d:PDef) (wv:Value):Prop:=
 w.cell? ⟨b,off,none⟩=some (.string d.name)∧w.cell? ⟨b,off+1,none⟩=some (.int .i64 d.kind)∧w.cell? ⟨b,off+2,none⟩=some (.int .i64 d.lo)∧w.cell? ⟨b,off+3,none⟩=some (.int .i64 d.hi)∧w.cell? ⟨b,off+4,none⟩=some wv
theorem Xbi.below {w w' : World} {b off:Nat} {d:PDef} {wv:Value} (h:Xbi w b off d wv) (hb:Below w.heap.size w w'):Xbi w' b off d wv:=
 ⟨Xz hb h.1,Xz hb h.2.1,Xz hb h.2.2.1,Xz hb h.2.2.2.1,Xz hb h.2.2.2.2⟩
theorem Xbi.lt {w:World} {b off:Nat} {d:PDef} {wv:Value} (h:Xbi w b off d wv):b < w.heap.size:=World.block_lt_of_cell? _ _ h.1
def Defs (w:World) (v:Value) (l:List PDef):Prop:=
 ∃a cap b off,v = .slice a l.length cap∧l.length≤cap∧cap≤maxLen∧(0 < l.length→a=some ⟨b,off,none⟩) ∧
  ∀i d,l[i]? = some d→∃wv,Xbi w b (off+i * 5) d wv∧Strs w wv d.words
theorem Defs.below {w w' : World} {v:Value} {l:List PDef} (h:Defs w v l) (hb:Below w.heap.size w w'):Defs w' v l:=by
 obtain ⟨a,cap,b,off,h1,h2,h3,h4,h5⟩:=h
 refine ⟨a,cap,b,off,h1,h2,h3,h4,fun i d hd=>?_⟩
 obtain ⟨wv,h6,h7⟩:=h5 i d hd
 exact ⟨wv,h6.below hb,h7.below hb⟩
theorem Defs.open {w:World} {v:Value} {l:List PDef} (h:Defs w v l):∃a cap b off,v = .slice a l.length cap∧l.length≤cap∧cap≤maxLen ∧
  (0 < l.length→a=some ⟨b,off,none⟩)∧Hid (∀i d,l[i]? = some d→∃wv,Xbi w b (off+i * 5) d wv∧Strs w wv d.words):=h
def Xgw (w:World) (v:Value) (s:V3):Prop:=∃dv,v = .agg #[.int .i64 s.dims, .int .i64 s.metric,dv]∧Defs w dv s.defs
theorem Xgw.below {w w' : World} {v:Value} {s:V3} (h:Xgw w v s) (hb:Below w.heap.size w w'):Xgw w' v s:=by
 obtain ⟨dv,h1,h2⟩:=h
 exact ⟨dv,h1,h2.below hb⟩
def Xxh (e:K9) (vv av:Value):Value:=.agg #[.int .i64 e.id, .int .i64 e.ver, .int .i64 e.owner, .int .i64 e.filed, .int .i64 e.frm, .int .i64 e.to, .int .i64 e.born,vv,av]
def Xmz (w:World) (v:Value) (e:K9):Prop:=∃vv av,v=Xxh e vv av∧Ints w vv e.vec∧Xgr w av e.attrs
theorem Xmz.below {w w' : World} {v:Value} {e:K9} (h:Xmz w v e) (hb:Below w.heap.size w w'):Xmz w' v e:=by
 obtain ⟨vv,av,h1,h2,h3⟩:=h
 exact ⟨vv,av,h1,h2.below hb,h3.below hb⟩
def RetB (w:World) (b:Bool) (e:Ending) (w' : World):Prop:=e = .returned (.bool b)∧Below w.heap.size w w'
def RetI (w:World) (n:Int) (e:Ending) (w' : World):Prop:=e = .returned (.int .i64 n)∧Below w.heap.size w w'
theorem RetB.mk {w w' : World} {a b:Bool} (h:a=b) (hb:Below w.heap.size w w'):RetB w b (.returned (.bool a)) w':=⟨by rw [h],hb⟩
theorem RetI.mk {w w' : World} {a b:Int} (h:a=b) (hb:Below w.heap.size w w'):RetI w b (.returned (.int .i64 a)) w':=⟨by rw [h],hb⟩
structure Rule where
 f:Nat
 caps:Array Value
 b:Bool
 e:Int
def Xpa (r:Rule):List Value := [.func (.func r.f) #[] r.caps, .int .i64 r.e]
def Xct (w:World) (v:Value) (rs:List Rule):Prop:=RdS w v 2 (rs.map Xpa)
theorem Xct.open {w:World} {v:Value} {l:List Rule} (h:Xct w v l):∃a cap b off,v = .slice a l.length cap∧l.length≤cap∧cap≤maxLen ∧
  (0 < l.length→a=some ⟨b,off,none⟩)∧Hid (∀i x,l[i]? = some x→w.cell? ⟨b,off+i * 2,none⟩=some (.func (.func x.f) #[] x.caps)∧w.cell? ⟨b,off+i * 2+1,none⟩=some (.int .i64 x.e)):=by
 obtain ⟨a,cap,b,off,h1,h2,h3,h4,h5⟩:=h
 simp only [List.length_map] at h1 h2 h4
 refine ⟨a,cap,b,off,h1,h2,h3,h4,fun i x hx=>?_⟩
 have e:(l.map Xpa)[i]? = some (Xpa x):=by simp [hx]
 exact ⟨h5 i 0 _ _ e rfl,h5 i 1 _ _ e rfl⟩
def Y66 (d:PDef):Prop:=d.name.size≤1000∧d.words.length≤1000∧∀s∈d.words,s.size≤1000
theorem Xmp {α:Type} (k:Nat):∀(rows:List (List α)),(∀r∈rows,r.length=k)→∀(i j:Nat) (r:List α) (u:α),rows[i]? = some r→r[j]? = some u→rows.flatten[i * k+j]? = some u
 | [],_,i,j,r,u,h,_=>by simp at h
 |x :: xs,hk,0,j,r,u,h,hu=>by
  simp at h;subst h
  have hj:j < x.length:=(List.getElem?_eq_some_iff.1 hu).1
  rw [List.flatten_cons,Nat.zero_mul,Nat.zero_add,List.getElem?_append_left hj]
  exact hu
 |x :: xs,hk,i+1,j,r,u,h,hu=>by
  have hx:=hk x S_
  rw [List.flatten_cons,List.getElem?_append_right (by rw [hx,Nat.succ_mul];omega),hx]
  have e:(i+1) * k+j - k=i * k+j:=by rw [Nat.succ_mul];omega
  rw [e]
  exact Xmp k xs (fun r hr=>hk r (by simp [hr])) i j r u (by simpa using h) hu
theorem RdS.lit (w:World) (k:Nat) (rows:List (List Value)) (hk:∀r∈rows,r.length=k) (T:TypeId) (hm:rows.length≤maxLen) :
  RdS (w.alloc (.cells rows.flatten.toArray T)) (.slice (some ⟨w.heap.size,0,none⟩) rows.length rows.length) k rows:=by
 refine ⟨_,_,w.heap.size,0,rfl,Nat.le_refl _,hm,fun _=>rfl,fun i j r u hr hu=>?_⟩
 have:=Xmp k rows hk i j r u hr hu
 rw [←this]
 simp [cell_of_row _ _ _ _ _ (0,0) (heap_alloc_new w (.cells rows.flatten.toArray T))]
theorem Xct.lit (w:World) (rs:List Rule) (T:TypeId) (hm:rs.length≤1000):Xct (w.alloc (.cells (rs.map Xpa).flatten.toArray T)) (.slice (some ⟨w.heap.size,0,none⟩) rs.length rs.length) rs:=by
 have:=RdS.lit w 2 (rs.map Xpa) (by intro r hr;obtain ⟨x,_,rfl⟩:=List.mem_map.1 hr;rfl) T (by simp [maxLen];omega)
 simpa [Xct] using this
theorem Xct.mk {w:World} {g n:Nat} {T:TypeId} {cs:Array Value} (rs:List Rule) (hm:rs.length≤1000) (hg:g=w.heap.size) (hn:n=rs.length) (hcs:cs=(rs.map Xpa).flatten.toArray) :
  Xct (w.alloc (.cells cs T)) (.slice (some ⟨g,0,none⟩) n n) rs:=by
 subst hg hn hcs
 exact Xct.lit w rs T hm
theorem Xbi.box (w:World) (d:PDef) (wv:Value) (T:TypeId):Xbi (w.alloc (.cells #[.string d.name, .int .i64 d.kind, .int .i64 d.lo, .int .i64 d.hi,wv] T)) w.heap.size 0 d wv:=by
 refine ⟨?_,?_,?_,?_,?_⟩<;>simp
def EnvD (d:PDef) (wv:Value) (bf:ByteArray) (g h:Nat) (w:World):Prop:=Xbi w g 0 d wv∧Strs w wv d.words∧w.cell? ⟨h,0,none⟩=some (.string bf)
theorem EnvD.below {d:PDef} {wv:Value} {bf:ByteArray} {g h:Nat} {w w' : World} (e:EnvD d wv bf g h w) (hb:Below w.heap.size w w'):EnvD d wv bf g h w':=
 ⟨e.1.below hb,e.2.1.below hb,Xz hb e.2.2⟩
def Y6k (s:V3):Prop:=s.defs.length≤1000∧∀d∈s.defs,Y66 d
def Xta (w:World) (g:Nat) (s:V3) (dv:Value):Prop:=w.cell? ⟨g,0,none⟩=some (.int .i64 s.dims)∧w.cell? ⟨g,1,none⟩=some (.int .i64 s.metric)∧w.cell? ⟨g,2,none⟩=some dv∧Defs w dv s.defs
theorem Xta.below {w w' : World} {g:Nat} {s:V3} {dv:Value} (h:Xta w g s dv) (hb:Below w.heap.size w w'):Xta w' g s dv:=
 ⟨Xz hb h.1,Xz hb h.2.1,Xz hb h.2.2.1,h.2.2.2.below hb⟩
theorem Xta.box (w:World) (s:V3) (dv:Value) (T:TypeId) (h:Defs w dv s.defs):Xta (w.alloc (.cells #[.int .i64 s.dims, .int .i64 s.metric,dv] T)) w.heap.size s dv:=by
 refine ⟨?_,?_,?_,h.below (Z9 _ _)⟩<;>simp
def Y0s (w:World) (p:Prop) (e:Ending) (w' : World):Prop:=∃b:Bool,e = .returned (.bool b)∧(b=true→p)∧Below w.heap.size w w'
theorem Y0s.mk {w w' : World} {p:Prop} {b:Bool} (h:b=true→p) (hb:Below w.heap.size w w'):Y0s w p (.returned (.bool b)) w':=⟨b,rfl,h,hb⟩
def FewD (d:PDef):Prop:=d.words.length≤60∧d.name.size≤100∧∀s∈d.words,s.size≤100
def FewS (s:V3):Prop:=s.defs.length≤20∧∀d∈s.defs,FewD d
theorem FewS.small {s:V3} (h:FewS s):Y6k s:=⟨by have:=h.1;omega,fun d hd=>⟨by have:=(h.2 d hd).2.1;omega,by have:=(h.2 d hd).1;omega,fun x hx=>by have:=(h.2 d hd).2.2 x hx;omega⟩⟩
def Xto (w:World) (g:Nat) (e:K9) (vv av:Value):Prop:=
 w.cell? ⟨g,0,none⟩=some (.int .i64 e.id)∧w.cell? ⟨g,1,none⟩=some (.int .i64 e.ver)∧w.cell? ⟨g,2,none⟩=some (.int .i64 e.owner)∧w.cell? ⟨g,3,none⟩=some (.int .i64 e.filed) ∧
 w.cell? ⟨g,4,none⟩=some (.int .i64 e.frm)∧w.cell? ⟨g,5,none⟩=some (.int .i64 e.to)∧w.cell? ⟨g,6,none⟩=some (.int .i64 e.born)∧w.cell? ⟨g,7,none⟩=some vv∧w.cell? ⟨g,8,none⟩=some av∧Ints w vv e.vec∧Xgr w av e.attrs
theorem Xto.below {w w' : World} {g:Nat} {e:K9} {vv av:Value} (h:Xto w g e vv av) (hb:Below w.heap.size w w'):Xto w' g e vv av:=by
 obtain ⟨h0,h1,h2,h3,h4,h5,h6,h7,h8,h9,h10⟩:=h
 exact ⟨Xz hb h0,Xz hb h1,Xz hb h2,Xz hb h3,Xz hb h4,Xz hb h5,Xz hb h6,Xz hb h7,Xz hb h8,h9.below hb,h10.below hb⟩
theorem Xto.box (w:World) (e:K9) (vv av:Value) (T:TypeId) (h:Ints w vv e.vec) (h2:Xgr w av e.attrs):Xto (w.alloc (.cells #[.int .i64 e.id, .int .i64 e.ver, .int .i64 e.owner, .int .i64 e.filed, .int .i64 e.frm, .int .i64 e.to, .int .i64 e.born,vv,av] T)) w.heap.size e vv av:=by
 refine ⟨?_,?_,?_,?_,?_,?_,?_,?_,?_,h.below (Z9 _ _),h2.below (Z9 _ _)⟩<;>simp
theorem X3f.box (w:World) (a:Yn) (T:TypeId):X3f (w.alloc (.cells #[.string a.name, .int .i64 a.kind, .int .i64 a.n, .string a.s] T)) w.heap.size 0 a:=by
 refine ⟨?_,?_,?_,?_⟩<;>simp
def Y0h (w:World) (r:Yn×Bool) (e:Ending) (w' : World):Prop:=
 e = .returned (.agg #[.string r.1.name, .int .i64 r.1.kind, .int .i64 r.1.n, .string r.1.s, .bool r.2])∧Below w.heap.size w w'
theorem Y0h.mk {w w' : World} {r:Yn×Bool} {a:Yn} {b:Bool} (h:r=(a,b)) (hb:Below w.heap.size w w'):Y0h w r (.returned (.agg #[.string a.name, .int .i64 a.kind, .int .i64 a.n, .string a.s, .bool b])) w':=by
 subst h;exact ⟨rfl,hb⟩
def Y01 (w:World) (r:Yn×Bool) (e:Ending) (w' : World):Prop:=
 e = .returned (.tuple #[Yah r.1, .bool r.2])∧Below w.heap.size w w'
theorem Y01.mk {w w' : World} {r:Yn×Bool} {a:Yn} {b:Bool} (h:r=(a,b)) (hb:Below w.heap.size w w'):Y01 w r (.returned (.tuple #[.agg #[.string a.name, .int .i64 a.kind, .int .i64 a.n, .string a.s], .bool b])) w':=by
 subst h;exact ⟨rfl,hb⟩
def Xht (w:World) (r:List ByteArray×Int×Int) (e:Ending) (w' : World):Prop:=
 ∃v,e = .returned (.tuple #[v, .int .i64 r.2.1, .int .i64 r.2.2])∧Own w.heap.size 9 w' v (r.1.map Value.string)∧Below w.heap.size w w'
theorem Xht.mk {w w' : World} {r:List ByteArray×Int×Int} {l:List ByteArray} {x y:Int} {v:Value} (h:r=(l,x,y)) (ho:Own w.heap.size 9 w' v (l.map Value.string)) (hb:Below w.heap.size w w') :
  Xht w r (.returned (.tuple #[v, .int .i64 x, .int .i64 y])) w':=by
 subst h;exact ⟨v,rfl,ho,hb⟩
def Y7u (w:World) (r:ByteArray×Int×Int) (e:Ending) (w' : World):Prop:=
 e = .returned (.tuple #[.string r.1, .int .i64 r.2.1, .int .i64 r.2.2])∧X9f w w'
theorem Y7u.mk {w w' : World} {r:ByteArray×Int×Int} {x:ByteArray} {y z:Int} (h:r=(x,y,z)) (hs:X9f w w'):Y7u w r (.returned (.tuple #[.string x, .int .i64 y, .int .i64 z])) w':=by
 subst h;exact ⟨rfl,hs⟩
theorem X7g.empty {w:World} {a:Option Addr} {c:Nat} (hc:c≤maxLen):X7g w (.slice a 0 c) []:=
 ⟨a,c,0,0,rfl,S_,hc,fun h=>by simp at h,fun j u hu=>by simp at hu⟩
def X3k (a:Yn):List PV := [pstr a.name,pint a.kind,pint a.n,pstr a.s]
def Xn4 (l:List Yn):PV:=.sl l.length 4 (l.flatMap X3k) none
def Xqp (d:PDef):List PV := [pstr d.name,pint d.kind,pint d.lo,pint d.hi,Xr d.words]
def Xxa (l:List PDef):PV:=.sl l.length 5 (l.flatMap Xqp) none
def Xtr (s:V3):PV:=.agg [pint s.dims,pint s.metric,Xxa s.defs]
def Y0d (e:K9):PV:=.agg [pint e.id,pint e.ver,pint e.owner,pint e.filed,pint e.frm,pint e.to,pint e.born,Kd e.vec,Xn4 e.attrs]
theorem X05 (l:List Yn):(l.flatMap X3k).all PV.one=true:=by
 rw [List.all_eq_true]
 intro c hc
 obtain ⟨a,-,h⟩:=List.mem_flatMap.1 hc
 simp [X3k] at h
 rcases h with rfl|rfl|rfl|rfl<;>rfl
theorem Xoq (a:Yn):∀c∈X3k a,Low c:=by intro c hc;simp [X3k] at hc;rcases hc with rfl|rfl|rfl|rfl<;>exact .val _
theorem Xe0 (l:List Yn):Low (Xn4 l)↔True:=⟨fun _=>trivial,fun _=>.sl _ _ _ _ (fun c hc=>by obtain ⟨a,-,h⟩:=List.mem_flatMap.1 hc;exact Xoq a c h)⟩
theorem Xva (d:PDef):∀c∈Xqp d,Low c:=by
 intro c hc;simp [Xqp] at hc
 rcases hc with rfl|rfl|rfl|rfl|rfl
 ·exact .val _
 ·exact .val _
 ·exact .val _
 ·exact .val _
 ·exact (Xb _).2 trivial
theorem Xil (l:List PDef):Low (Xxa l)↔True:=⟨fun _=>trivial,fun _=>.sl _ _ _ _ (fun c hc=>by obtain ⟨a,-,h⟩:=List.mem_flatMap.1 hc;exact Xva a c h)⟩
theorem Xbb (s:V3):Low (Xtr s)↔True:=⟨fun _=>trivial,fun _=>.agg _ (by
 intro c hc;simp at hc
 rcases hc with rfl|rfl|rfl
 ·exact .val _
 ·exact .val _
 ·exact (Xil _).2 trivial)⟩
theorem Xe4 (s:K9):Low (Y0d s)↔True:=⟨fun _=>trivial,fun _=>.agg _ (by
 intro c hc;simp at hc
 rcases hc with rfl|rfl|rfl|rfl|rfl|rfl|rfl|rfl|rfl
 ·exact .val _
 ·exact .val _
 ·exact .val _
 ·exact .val _
 ·exact .val _
 ·exact .val _
 ·exact .val _
 ·exact (Xx _).2 trivial
 ·exact (Xe0 _).2 trivial)⟩
end
section
open Go.RowKit
variable {Φ:Imm} {μ:Nat→Option Nat} {w:World} (himm:∀b o u,Φ b o=some u→w.cell? ⟨b,o,none⟩=some u)
include himm
theorem Xbu {α:Type} {f:α→Value} {l:List α} {n:Nat} {own:Option TypeId} {v:Value} (h:Rep Φ μ (.sl n 1 (l.map fun x=>.val (f x)) own) v):Rd w v (l.map f):=by
 obtain ⟨a,b,off,cap,us,rfl,h1,h2,h3,h4,h5,h6⟩:=h.sl_inv
 have hn:n=l.length:=by simpa using h3.symm
 subst hn
 refine ⟨a,cap,b,off,S_,by simpa using h1,h2,by simpa using h4,fun j u hu=>?_⟩
 have hj:j < l.length:=by have:=(List.getElem?_eq_some_iff.1 hu).1;simpa using this
 have hr:=h6 j (.val (f l[j])) (by simp [hj])
 obtain ⟨e,-⟩:=hr.val_inv
 have:=himm _ _ _ (h5 j (by simpa using hj))
 rw [this,e]
 simp [hj] at hu
 rw [hu]
theorem X73 {zs:List ByteArray} {v:Value} (h:Rep Φ μ (Xr zs) v):Strs w v zs:=Xbu himm h
end
section
open Go.RowKit
structure EnvF (a:Yn) (d:PDef) (wv:Value) (bf:ByteArray) (g h k q:Nat) (w:World):Prop where
 at_:X3f w g 0 a
 bf:w.cell? ⟨h,0,none⟩=some (.string bf)
 df:Xbi w k 0 d wv
 ws:Strs w wv d.words
 nm:w.cell? ⟨q,0,none⟩=some (.bool (a.kind == 1))
theorem EnvF.below {a:Yn} {d:PDef} {wv:Value} {bf:ByteArray} {g h k q:Nat} {w w' : World} (e:EnvF a d wv bf g h k q w) (hb:Below w.heap.size w w'):EnvF a d wv bf g h k q w':=
 ⟨e.at_.below hb,Xz hb e.bf,e.df.below hb,e.ws.below hb,Xz hb e.nm⟩
theorem Rd.lit {w:World} {g n:Nat} {T:TypeId} {cs:Array Value} (l:List Value) (hg:g=w.heap.size) (hn:n=l.length) (hm:l.length≤1000000) (hcs:cs=l.toArray):Rd (w.alloc (.cells cs T)) (.slice (some ⟨g,0,none⟩) n n) l:=by
 subst hg hn hcs
 exact (Own.lit w l T 0 (Nat.zero_le _) (by unfold maxLen;omega)).rd
def Two (H:Nat) (x y:Value) (v:Value) (w:World):Prop:=∃g,v = .slice (some ⟨g,0,none⟩) 2 2∧H≤g∧w.cell? ⟨g,0,none⟩=some x∧w.cell? ⟨g,1,none⟩=some y
theorem Two.below {H:Nat} {x y v:Value} {w w' : World} (h:Two H x y v w) (hb:Below w.heap.size w w'):Two H x y v w':=by
 obtain ⟨g,h1,h2,h3,h4⟩:=h
 exact ⟨g,h1,h2,Xz hb h3,Xz hb h4⟩
theorem Two.rd {H:Nat} {x y v:Value} {w:World} (h:Two H x y v w):Rd w v [x,y]:=by
 obtain ⟨g,rfl,h2,h3,h4⟩:=h
 refine ⟨_,2,g,0,rfl,S_,by simp [maxLen],fun _=>rfl,fun j u hu=>?_⟩
 match j,hu with
 |0,hu=>simp at hu;subst hu;exact h3
 |1,hu=>simp at hu;subst hu;exact h4
theorem Own.lt {B E:Nat} {w:World} {v:Value} {cs:List Value} (h:Own B E w v cs):∀k,v.ownBlock=some k→B≤k∧k < w.heap.size:=World.ownsRow.lt h
end
section
open Go.RowKit
variable {P:Program} {T:Tab} {ops:Array Oper} {base:Nat} {ok:Nat→Nat→Bool} {i:Nat} {o:Oper} {rest:List (Nat×Oper)} {K:PS→Prop} {σ:PS}
theorem X5.callV {c:Call} {x:Operand} {d:Nat} {f:FuncId} {caps args:List PV} {r:PV} (hf:Nat.blt f 1000000=true) (hp:Xs P f args (· = r)) (hg:Xk ops σ o=some true) (hd:o.dst=some d) (hop:o.op = .call c) (hcal:c.callee = .value x) (hx:pev σ x = .fn f caps) (hargs:c.args.toList.map (pev σ) ++ caps=args)
  (k:X5 P T ops base ok rest K (σ.put d r)):X5 P T ops base ok ((i,o) :: rest) K σ:=by
 refine X5.call hg hd ?_ hp k
 unfold X8k
 rw [hop]
 simp only [hcal,hx,hf,cond_true,hargs]
end
section
open Go.RowKit
def idxF {α:Type} (p:α→Bool) (l:List α):Int:=match l.findIdx? p with
 |some i=>i
 |none => -1
theorem Xsn {α:Type} (p:α→Bool) (l:List α):decide (0≤idxF p l)=l.any p:=by
 unfold idxF
 cases h:l.findIdx? p with
 |none=>
  have:l.any p=false:=by
   rw [List.findIdx?_eq_none_iff] at h
   rw [List.any_eq_false]
   intro x hx
   simp [h x hx]
  rw [this];rfl
 |some i=>
  have:l.any p=true:=by
   obtain ⟨hi,h1,-⟩:=List.findIdx?_eq_some_iff_getElem.1 h
   rw [List.any_eq_true]
   exact ⟨l[i],List.getElem_mem hi,h1⟩
  rw [this];simp
theorem Xsd {α:Type} {p:α→Bool} {l:List α} {k:Nat} (d:α) (hk:k < l.length) (hp:p (l.getD k d)=true) (hn:∀j,j < k→p (l.getD j d)=false):idxF p l=k:=by
 have:l.findIdx? p=some k:=by
  rw [List.findIdx?_eq_some_iff_getElem]
  refine ⟨hk,by simpa [G_,hk] using hp,fun j hj=>?_⟩
  have:=hn j hj
  have hj' : j < l.length:=O_
  simp [G_,hj'] at this
  simp [this]
 unfold idxF
 rw [this]
theorem Xr8 {α:Type} {p:α→Bool} {l:List α} (d:α) (hn:∀j,j < l.length→p (l.getD j d)=false):idxF p l = -1:=by
 have:l.findIdx? p=none:=by
  rw [List.findIdx?_eq_none_iff]
  intro x hx
  obtain ⟨j,hj,rfl⟩:=List.getElem_of_mem hx
  have:=hn j hj
  simpa [G_,hj] using this
 unfold idxF
 rw [this]
instance:Inhabited K9:=⟨⟨0,0,0,0,0,0,0,[],[]⟩⟩
instance:Inhabited PDef:=⟨⟨ByteArray.empty,0,0,0,[]⟩⟩
instance:Inhabited Yn:=⟨⟨ByteArray.empty,0,0,ByteArray.empty⟩⟩
theorem Y1c (f:Nat) (caps:List PV) (p:ByteArray→Bool) (l:List (ByteArray)) (hf:Nat.blt f 1000000=true) (hl:l.length≤1000000000000) (hlow:∀c∈caps,Low c) (hp:∀k,k < l.length→Xs Tryz.prog f (pstr (l.getD k default) :: caps) (· = Y1 (p (l.getD k default)))):Xs Tryz.prog 100 [Xr l, .fn f caps] (· = pint (idxF p l)):=by
 have hlow1:Low (.fn f caps):=.fn f caps hlow
 have hlow2:Low (Xr l):=(Xb l).2 trivial
 refine Xd X6 Tryz.func100 rfl K_ (by simp [hlow2,hlow1]) (by simp [Xr,PV.ownB]) (by rw [Tryz.ntmps100];simp) ?_
 rw [Tryz.ntmps100,Tryz.results100]
 refine wk ?_
 refine PW.loop (fun k:Nat=>((((bot.put 0 (Xr l)).put 1 (.fn f caps)).put 7 (pint l.length)).put 8 (pint k))) (fun k=>k≤l.length∧∀j,j < k→p (l.getD j default)=false) (fun k=>l.length - k) 0 ⟨O_,S_⟩ ?_ ?_
 ·exact sb
 ·rintro k ⟨hk,hn⟩
  by_cases hlt:k < l.length
  ·refine wk ?_
   refine X5.callV hf (hp k hlt) rfl rfl rfl rfl rfl rfl ?_
   cases hpk:p (l.getD k default) with
   |true=>
    refine wk ?_
    refine retP rfl (by exact lw) ?_
    rw [Xsd default hlt hpk hn];rfl
   |false=>
    refine wk ?_
    refine Y4 (k+1) ⟨O_,fun j hj=>?_⟩ O_ ?_
    ·by_cases h:j=k
     ·rw [h];exact hpk
     ·exact hn j O_
    ·exact sb
  ·refine wk ?_
   refine retP rfl (by exact lw) ?_
   rw [Xr8 default (fun j hj=>hn j O_)];rfl
theorem Y3n (f:Nat) (caps:List PV) (p:ByteArray→Bool) (l:List (ByteArray)) (hf:Nat.blt f 1000000=true) (hl:l.length≤1000000000000) (hlow:∀c∈caps,Low c) (hp:∀k,k < l.length→Xs Tryz.prog f (pstr (l.getD k default) :: caps) (· = Y1 (p (l.getD k default)))):Xs Tryz.prog 84 [Xr l, .fn f caps] (· = Y1 (l.any p)):=by
 have hlow1:Low (.fn f caps):=.fn f caps hlow
 have hlow2:Low (Xr l):=(Xb l).2 trivial
 have h:=Y1c f caps p l hf hl hlow hp
 refine Xd X6 Tryz.func84 rfl K_ (by simp [hlow2,hlow1]) (by simp [Xr,PV.ownB]) (by rw [Tryz.ntmps84];simp) ?_
 rw [Tryz.ntmps84,Tryz.results84]
 refine wk ?_
 refine X5.boolS rfl rfl rfl rfl rfl ?_ ?_
 ·intro hsp
  refine wk ?_
  refine retP rfl (by exact lw) ?_
  rw [←Xsn,hsp];rfl
 ·intro hsp
  refine wk ?_
  refine retP rfl (by exact lw) ?_
  rw [←Xsn,hsp];rfl
theorem X9x (v:Value) (zs:List ByteArray) (w:World) (hv:Strs w v zs) (hl:zs.length≤1000000000):Calls Tryz.prog 65 #[v] w (Y3c 9 w (zs.map Value.string)):=by
 have HV:=Lib.hid hv
 obtain ⟨a,cap,b,off,rfl,hcap,hm,ha,hc⟩:=hv.open
 clear hv hc
 cases a with
 |none=>
  have hz:zs = []:=List.eq_nil_of_length_eq_zero (by
   rcases Nat.eq_zero_or_pos zs.length with h|h
   ·exact h
   ·have:=ha h;cases this)
  subst hz
  clear ha
  have he:=fun (w:World)=>Lib.run_eql_slice_nil (P:=Tryz.prog) w 33 9 none 0 cap 0 0 K_
  go_enter Tryz.func65,Tryz.ntmps65
  simp only [Option.isNone_none] at he
  go_wp2
  go_ret
  exact ⟨_,rfl,Own.nil _ _ _,Below.refl _ _⟩
 |some ad=>
  clear ha
  have he:=fun (w:World)=>Lib.run_eql_slice_nil (P:=Tryz.prog) w 33 9 (some ad) zs.length cap 0 0 K_
  go_enter Tryz.func65,Tryz.ntmps65
  simp only [Option.isNone_some] at he
  have h0:=Lib.hid (show Own w.heap.size 9 (w.alloc (.cells #[] 9)) (.slice (some ⟨w.heap.size,0,none⟩) 0 0) [] from Own.lit w [] 9 w.heap.size (Nat.le_refl _) (by simp [maxLen]))
  have h1:=Lib.hid (show Rd (w.alloc (.cells #[] 9)) (.slice (some ad) zs.length cap) (zs.map Value.string) from HV.out.below ((Below.refl _ _).alloc (Nat.le_refl _) _))
  go_wp2_with (at_builtin;refine Xpf _ _ 33 9 16 _ Y2d rfl rfl K_ w.heap.size _ _ [] (zs.map Value.string) rfl h0.out rfl h1.out (by intro c hc;obtain ⟨z,-,rfl⟩:=List.mem_map.1 hc;rfl) (by simp [maxLen];omega) (by simp;omega) S_ ?_;intro v' w' ho hb)
  go_ret
  exact ⟨_,rfl,by simpa using ho,((Below.refl _ _).alloc (Nat.le_refl _) _).trans hb⟩
theorem Xuh (l:List ByteArray) (hl:l.length≤1000000000):Xs Tryz.prog 65 [Xr l] (· = .sl l.length 1 (l.map pstr) (some 9)):=
 Xda K_ fun Φ μ w v himm hr=>(X9x v l w (X73 himm hr) hl).mono (by
  rintro e w' ⟨u,rfl,ho,hb⟩
  exact Xmn himm (f:=Value.string) (fun _=>rfl) ho hb)
structure POut where
 base:Int
 acked:Int
 sum:ByteArray
 queue:List ByteArray
deriving Inhabited
def Xgn (o:POut):List PV := [pint o.base,pint o.acked,pstr o.sum,Xr o.queue]
def pout (o:POut):PV:=.agg (Xgn o)
theorem X0d (o:POut):∀c∈Xgn o,Low c:=by
 intro c hc
 simp only [Xgn,List.mem_cons,List.not_mem_nil,or_false] at hc
 rcases hc with rfl|rfl|rfl|rfl
 ·exact .val _
 ·exact .val _
 ·exact .val _
 ·exact (Xb _).2 trivial
theorem X0b (o:POut):Low (pout o)↔True:=⟨fun _=>trivial,fun _=>.agg _ (X0d o)⟩
structure Zm (o:POut):Prop where
 b:0≤o.base∧o.base≤900000000
 a:0≤o.acked∧o.acked≤o.base+o.queue.length
 l:o.queue.length≤900
 s:o.sum.size≤65536
 q:∀x∈o.queue,x.size≤65536
theorem X1i (n most:Int):Xs Tryz.prog 67 [pint n,pint most] (· = Y1 (decide (0≤n) && decide (n≤most))):=by
 refine Xd X6 Tryz.func67 rfl K_ (by simp [Xo,Xx,Y0,Xy,Xw,Xb]) (by simp [pint,Kd,pstr,Y1,Xr,Yp,PV.ownB]) (by rw [Tryz.ntmps67];simp) ?_
 rw [Tryz.ntmps67,Tryz.results67]
 by_cases h1:0≤n
 ·by_cases h2:n≤most
  ·refine wk ?_
   refine retP rfl (.val _) ?_
   simp [Y1,h1,h2]
  ·refine wk ?_
   refine retP rfl (.val _) ?_
   simp [Y1,h1,h2]
 ·refine wk ?_
  refine retP rfl (.val _) ?_
  simp [Y1,h1]
theorem X2g (s:ByteArray) (hs:s.size≤1000000000):Xs Tryz.prog 63 [pstr s] (· = Y1 (decide (s.size≤65536))):=by
 refine Xd X6 Tryz.func63 rfl K_ (by simp [Xo,Xx,Y0,Xy,Xw,Xb]) (by simp [pint,Kd,pstr,Y1,Xr,Yp,PV.ownB]) (by rw [Tryz.ntmps63];simp) ?_
 rw [Tryz.ntmps63,Tryz.results63]
 by_cases h1:s.size≤65536
 ·refine wk ?_
  refine retP rfl (.val _) ?_
  simp [Y1,h1]
 ·refine wk ?_
  refine retP rfl (.val _) ?_
  simp [Y1,h1]
theorem Xh8 (o:POut) (h1 : -1000000000000000≤o.base∧o.base≤1000000000000000) (h2:o.queue.length≤1000000000000000):Xs Tryz.prog 64 [pout o] (· = pint (o.base+o.queue.length)):=by
 have hlo:=X0d o
 refine Xd X6 Tryz.func64 rfl K_ (by simp [Xo,Xx,Y0,Xy,Xw,Xb,X0b]) (by simp [pint,Kd,pstr,Y1,Xr,Yp,PV.ownB,pout]) (by rw [Tryz.ntmps64];simp) ?_
 rw [Tryz.ntmps64,Tryz.results64]
 refine wk ?_
 exact retP rfl (.val _) rfl
theorem Xx3 (s:ByteArray) (hs:s.size≤65536):Xs Tryz.prog 85 [pstr s] (· = Y1 false):=by
 have k:=X2g s O_
 rw [decide_eq_true hs] at k
 refine Xd X6 Tryz.func85 rfl K_ (by simp [Xo,Xx,Y0,Xy,Xw,Xb]) (by simp [pint,Kd,pstr,Y1,Xr,Yp,PV.ownB]) (by rw [Tryz.ntmps85];simp) ?_
 rw [Tryz.ntmps85,Tryz.results85]
 refine wk ?_
 exact retP rfl (.val _) rfl
theorem X4i (o:POut) (h:Zm o):Xs Tryz.prog 62 [pout o] (· = Y1 true):=by
 have hlo:=X0d o
 obtain ⟨b,a,l,s,q⟩:=h
 have k1:=Y3n 85 [] (fun _=>false) o.queue rfl O_ S_ (fun k hk=>Xx3 _ (q _ (by rw [G_,E_ hk];exact List.getElem_mem hk)))
 rw [show o.queue.any (fun _=>false)=false by simp] at k1
 have k2:=X1i o.base 1099511627776
 rw [show (decide (0≤o.base) && decide (o.base≤1099511627776))=true by simp;omega] at k2
 have k3:=Xh8 o O_ O_
 have k4:=X1i o.acked (o.base+o.queue.length)
 rw [show (decide (0≤o.acked) && decide (o.acked≤o.base+o.queue.length))=true by simp;omega] at k4
 have k5:=X2g o.sum O_
 rw [decide_eq_true s] at k5
 clear q
 refine Xd X6 Tryz.func62 rfl K_ (by simp [Xo,Xx,Y0,Xy,Xw,Xb,X0b]) (by simp [pint,Kd,pstr,Y1,Xr,Yp,PV.ownB,pout]) (by rw [Tryz.ntmps62];simp) ?_
 rw [Tryz.ntmps62,Tryz.results62]
 have em:(if false=true then (if o.base+(o.queue.length:Int) > 1099511627776 then o.base+(o.queue.length:Int) else 1099511627776) else if o.base+(o.queue.length:Int) < 1099511627776 then o.base+(o.queue.length:Int) else 1099511627776)=o.base+o.queue.length:=by rw [if_neg S_,if_pos O_]
 refine wk ?_
 rw [em]
 clear em
 refine wk ?_
 exact retP rfl (.val _) rfl
def X1g (o:POut) (s:ByteArray):POut:=⟨o.base,o.acked,o.sum,o.queue ++ [s]⟩
theorem Xpv (o:POut) (s:ByteArray) (h:Zm o) (hs:s.size≤65536):Xs Tryz.prog 44 [pout o,pstr s] (· = .tup [pout (X1g o s),pint 0]):=by
 have hlo:=X0d o
 have hlq:Low (Xr o.queue):=(Xb _).2 trivial
 have k1:=X4i o h
 obtain ⟨b,a,l,-,q⟩:=h
 have k2:=X2g s O_
 rw [decide_eq_true hs] at k2
 have k3:=Xh8 o O_ O_
 have k4:=Xuh o.queue O_
 clear q
 refine Xs.weak ?_
 refine Xd X6 Tryz.func44 rfl K_ (by simp [Xo,Xx,Y0,Xy,Xw,Xb,X0b]) (by simp [pint,Kd,pstr,Y1,Xr,Yp,PV.ownB,pout]) (by rw [Tryz.ntmps44];simp) ?_
 rw [Tryz.ntmps44,Tryz.results44]
 have e:pout (X1g o s) = .agg [pint o.base,pint o.acked,pstr o.sum, .sl (o.queue.length+1) 1 (o.queue.map pstr ++ [pstr s]) none]:=by simp [pout,Xgn,X1g,Xr]
 have hl9:Low (.tup [pout (X1g o s),pint 0]):=Km.2 (by simp [X0b,Xo])
 rw [e] at hl9 ⊢
 clear e
 refine wk ?_
 exact retP rfl hl9 (Weak.refl _)
theorem Xpz (o:POut) (n:Int) (h:Zm o) (hn:o.acked < n∧n≤o.base+o.queue.length) (hb:o.base < n):Xs Tryz.prog 47 [pout o,pint n] (· = .tup [pout ⟨n,n,ByteArray.empty,o.queue.drop (n - o.base).toNat⟩,pint 0]):=by
 have hlo:=X0d o
 have hlq:Low (Xr o.queue):=(Xb _).2 trivial
 have k1:=X4i o h
 obtain ⟨b,a,l,-,q⟩:=h
 have k3:=Xh8 o O_ O_
 have k2:=X1i n (o.base+o.queue.length)
 rw [show (decide (0≤n) && decide (n≤o.base+o.queue.length))=true by simp;omega] at k2
 clear q
 refine Xd X6 Tryz.func47 rfl K_ (by simp [Xo,Xx,Y0,Xy,Xw,Xb,X0b]) (by simp [pint,Kd,pstr,Y1,Xr,Yp,PV.ownB,pout]) (by rw [Tryz.ntmps47];simp) ?_
 rw [Tryz.ntmps47,Tryz.results47]
 refine wk ?_
 exact retP (r:=.tup [pout ⟨n,n,ByteArray.empty,o.queue.drop (n - o.base).toNat⟩,pint 0]) rfl (Km.2 (by simp [X0b,Xo])) rfl
structure PFrm where
 sum:Bool
 seq:Int
 body:ByteArray
deriving Inhabited
def Yj (f:PFrm):List PV := [Y1 f.sum,pint f.seq,pstr f.body]
def pfrm (f:PFrm):PV:=.agg (Yj f)
def Xp (l:List PFrm):PV:=.sl l.length 3 (l.flatMap Yj) none
theorem Yw (f:PFrm):∀c∈Yj f,Low c:=by
 intro c hc
 simp only [Yj,List.mem_cons,List.not_mem_nil,or_false] at hc
 rcases hc with rfl|rfl|rfl<;>exact .val _
theorem Kv (f:PFrm):Low (pfrm f)↔True:=⟨fun _=>trivial,fun _=>.agg _ (Yw f)⟩
theorem Xf (l:List PFrm):Low (Xp l)↔True:=⟨fun _=>trivial,fun _=>.sl _ _ _ _ fun c hc=>by
 obtain ⟨f,-,h⟩:=List.mem_flatMap.1 hc
 exact Yw f c h⟩
def Kq (o:POut):List PFrm:=(List.range o.queue.length).map fun (i:Nat)=>⟨false,o.base+i,o.queue.getD i default⟩
def Part (xs pre:List (List PV)):Prop:=∃k,pre=xs.take k
theorem Xpy (o:POut):Xs Tryz.prog 68 [pout o] (· = .fn 86 [.ep (Xgn o) 0]):=by
 have hlo:=X0d o
 refine Xd X6 Tryz.func68 rfl K_ (by simp [X0b]) (by simp [pout,PV.ownB]) (by rw [Tryz.ntmps68];simp) ?_
 rw [Tryz.ntmps68,Tryz.results68]
 refine PW.seq ?_
 refine PW.region X6 K_ ?_
 refine wg ?_
 refine PW.freezeP (id:=0) (s:=1) (off:=0) (σ':=bot) rfl rfl hlo (by exact sbr0) rfl ?_
 refine wk ?_
 exact retP rfl (.fn _ _ (fun c hc=>by rw [List.mem_singleton] at hc;subst hc;exact .ep _ _ hlo)) rfl
def frsL (o:POut):List (List PV):=(List.range o.queue.length).map fun (k:Nat) => [.agg [Y1 false,pint (o.base+k),pstr (o.queue.getD k default)]]
theorem Xay (o:POut):(frsL o).length=o.queue.length:=by simp [frsL]
theorem Xhi {o:POut} {k:Nat} (h:k < o.queue.length):(frsL o).take (k+1)=(frsL o).take k ++ [[.agg [Y1 false,pint (o.base+k),pstr (o.queue.getD k default)]]]:=by
 rw [List.take_add_one]
 congr 1
 simp [frsL,h]
theorem Xud (o:POut) (h:Zm o) (ha:o.acked=o.base):Xsy Tryz.prog 86 [.ep (Xgn o) 0] (Part (frsL o)) (· = frsL o):=by
 have hlo:=X0d o
 have hlep:Low (.ep (Xgn o) 0):=.ep _ _ hlo
 obtain ⟨b,a,l,-,-⟩:=h
 have ke:=Xh8 o O_ O_
 refine Xgb X6 Tryz.func86 rfl K_ (by intro p hp;rw [List.mem_singleton] at hp;subst hp;exact .ep _ _ hlo) (by simp [PV.ownB]) (by rw [Tryz.ntmps86];simp) ?_
 intro Lb E Φ0 W l hgiv hy hr
 rw [Tryz.ntmps86,Tryz.results86]
 refine jw0 ?_
 refine PWJ.of_pw ?_
 refine wk ?_
 refine jw0 ?_
 refine PWJ.of_pw ?_
 refine wk ?_
 refine jw0 ?_
 rw [show (if true=true then (if o.base > o.acked then o.base else o.acked) else if o.base < o.acked then o.base else o.acked)=o.base by rw [ha];simp]
 refine PWJ.loop (fun k:Nat=>(((bot.put 0 (.val (.func (.yield l) #[] #[]))).put 1 (.ep (Xgn o) 0)).put 3 (pint (o.base+k)))) (fun k=>some ((frsL o).take k)) (fun k=>k≤o.queue.length) (fun k=>o.queue.length - k) 0 O_ ?_ rfl ?_
 ·rw [show o.base+((0:Nat):Int)=o.base by omega]
  exact sb
 ·intro k hk
  by_cases hlt:k < o.queue.length
  ·refine jw0 ?_
   refine PWJ.of_pw ?_
   refine wk ?_
   refine jw0 ?_
   refine PWJ.regionN 11 (x := [.agg [Y1 false,pint (o.base+k),pstr (o.queue.getD k default)]]) (d:=41) X6 hgiv hy hr K_ (by rfl) (by rfl) ?_
   refine wk ?_
   rw [show (o.base+(k:Int) - o.base).toNat=k by omega]
   refine ⟨⟨rfl,D_,⟨_,_,rfl,rfl,rfl,rfl⟩,rfl,?_,⟨k+1,(Xhi hlt).symm⟩,fun id bs e=>(by cases e),fun id es c e=>(by cases e)⟩,fun b' => ?_⟩
   ·intro p hp
    rw [List.mem_singleton] at hp;subst hp
    exact .agg _ (by simp [Xy,Xo,Y0])
   cases b' with
   |true=>
    refine wk ?_
    refine jw0 ?_
    refine PWJ.of_pw ?_
    refine wk ?_
    refine jw0 ?_
    refine Ya5 (k+1) O_ O_ ?_ ?_
    ·rw [show o.base+((k+1:Nat):Int)=o.base+(k:Int)+1 by omega]
     exact sb
    ·simp only [if_true];rw [Xhi hlt]
   |false=>
    refine wk ?_
    refine jw0 ?_
    exact ⟨⟨_,rfl⟩,fun xs e=>by simp at e⟩
  ·refine jw0 ?_
   refine PWJ.of_pw ?_
   refine wk ?_
   refine jw0 ?_
   exact ⟨⟨_,rfl⟩,fun xs e=>by simp at e;rw [←e];exact H_ (by rw [Xay];omega)⟩
def frA (l:List PFrm):Nat→PV
 |0=>.nilsl
 |k+1=>.sl (k+1) 3 ((l.take (k+1)).flatMap Yj) (some 59)
theorem Xn8 {l:List PFrm} {k:Nat} {f:PFrm} (h:l[k]? = some f):frA l (k+1) = .sl (k+1) 3 ((l.take k).flatMap Yj ++ Yj f) (some 59):=by
 rw [frA,List.take_add_one,h]
 simp [List.flatMap_append]
theorem Ks (l:List PFrm):∀c∈l.flatMap Yj,Low c:=by
 intro c hc
 obtain ⟨f,-,h⟩:=List.mem_flatMap.1 hc
 exact Yw f c h
theorem Xtf (l:List PFrm):∀k,Low (frA l k)
 |0=>.nilsl
 |k+1=>.sl _ _ _ _ (Ks _)
theorem Y32 (l:List PFrm) (k:Nat) (f:PFrm) (n:Nat) (o:Option TypeId):Low (.sl n 3 ((l.take k).flatMap Yj ++ Yj f) o):=.sl _ _ _ _ fun c hc=>by
 rcases List.mem_append.1 hc with h|h
 ·exact Ks _ c h
 ·exact Yw f c h
theorem Xzk {l:List PFrm} : ∀k,k≤l.length→∀c ∈ [frA l k],X6h c
 |0,_=>fun c hc=>by rw [List.mem_singleton] at hc;subst hc;exact X4b rfl
 |k+1,hk=>fun c hc=>by
  rw [List.mem_singleton] at hc;subst hc
  intro n m cs E e
  cases l with
  |nil=>simp at hk
  |cons f l=>
   cases e
   exact .inr ⟨0,Y1 f.sum,rfl,rfl⟩
theorem X40 (o:POut):(Kq o).length=o.queue.length:=by simp [Kq]
theorem Xm2 {o:POut} {k:Nat} (h:k < o.queue.length):(Kq o)[k]? = some ⟨false,o.base+k,o.queue.getD k default⟩:=by simp [Kq,h]
theorem Y0e {o:POut} {pre:List (List PV)} {x:List PV} (h:Part (frsL o) (pre ++ [x])):∃k,k < o.queue.length∧x = [pfrm ⟨false,o.base+k,o.queue.getD k default⟩]∧pre=(frsL o).take k:=by
 obtain ⟨k,hk⟩:=h
 have hl:pre.length+1=min k (frsL o).length:=by
  have:=congrArg List.length hk
  simpa using this
 have hj:pre.length < o.queue.length:=by rw [Xay] at hl;omega
 refine ⟨pre.length,hj,?_,?_⟩
 ·have h1:(pre ++ [x])[pre.length]? = some x:=S_
  rw [hk,List.getElem?_take,if_pos O_] at h1
  simp only [frsL,M_,List.getElem?_range hj,Option.map_some,Option.some.injEq] at h1
  exact h1.symm
 ·have h1:pre=(pre ++ [x]).take pre.length:=S_
  rw [h1,hk,List.take_take]
  congr 1
  simp;omega
theorem Xfr (o:POut) (h:Zm o) (ha:o.acked=o.base) (most:Nat) (hm:most≤9223372036854775807):Xs Tryz.prog 48 [pout o,pint most] (· = .tup [Xp ((Kq o).take most),pint 0]):=by
 have hlo:=X0d o
 have hlep:Low (.ep (Xgn o) 0):=.ep _ _ hlo
 have k1:=X4i o h
 have k2:=Xpy o
 have hit:=Xud o h ha
 have hll:=h.l
 have hlow:=Xtf (Kq o)
 clear h
 refine Xs.weak ?_
 refine Xd X6 Tryz.func48 rfl K_ (by simp [Xo,Xx,Y0,Xy,Xw,Xb,X0b]) (by simp [pint,Kd,pstr,Y1,Xr,Yp,PV.ownB,pout]) (by rw [Tryz.ntmps48];simp) ?_
 rw [Tryz.ntmps48,Tryz.results48]
 refine wk ?_
 refine PW.rangeFunc (A:=Part (frsL o)) (S:=(· = frsL o)) 3000000 [3003000,3000001] (fun pre=>((((bot.setb 3000001 [pint most]).setb 3003000 [frA (Kq o) (min pre.length o.queue.length)]).put 3 (.ptr 3000001 0)).put 6 (.ptr 3003000 0))) (fun pre=>pre.length≤most) S_ rfl rfl (by intro p hp;rw [List.mem_singleton] at hp;subst hp;exact hlep) hit (by exact sbr0) (fun pre=>by exact kn0) (by intro pre i hi;simp only [List.mem_cons,List.not_mem_nil,or_false] at hi;rcases hi with rfl|rfl|rfl|rfl|rfl<;>rfl) rfl D_ (fun pre=>by have:=Xzk (l:=Kq o) (min pre.length o.queue.length) (by rw [X40];omega);exact ow0) S_ ?_ ?_ ?_
 ·intro pre x hx
  obtain ⟨k,-,rfl,-⟩:=Y0e hx
  refine ⟨rfl,fun p hp=>?_⟩
  rw [List.mem_singleton] at hp;subst hp
  exact ⟨(Kv _).2 trivial,rfl⟩
 ·intro pre x hI hx
  obtain ⟨k,hk,rfl,rfl⟩:=Y0e hx
  have hlen:((frsL o).take k).length=k:=by rw [T_,Xay];omega
  rw [hlen] at hI
  simp only [Xql,A_,hlen,C_,List.length_nil,Nat.zero_add]
  rw [show min k o.queue.length=k by omega,show min (k+1) o.queue.length=k+1 by omega]
  have hg:=Xm2 hk
  have e9:=Xn8 hg
  have l9:=Y32 (Kq o) k ⟨false,o.base+k,o.queue.getD k default⟩ (k+1) (some 59)
  by_cases hkm:k=most
  ·subst hkm
   rcases k with _|k
   ·refine wk ?_
    refine Xzb ?_
    refine wk ?_
    refine Xcm (((bot.setb 3000001 [pint ((0:Nat):Int)]).setb 3003000 [frA (Kq o) 0]).put 6 (.ptr 3003000 0)) (((bot.setb 1 [pint ((0:Nat):Int)]).setb 3000 [frA (Kq o) 0]).put 6 (.ptr 3000 0)) (by exact lt0) (by exact sb) (by exact kn0) (by exact sbr0) ?_
    refine X2o ?_
    refine wk ?_
    exact retP (r:=.tup [.nilsl,pint 0]) rfl (Km.2 (by simp [X3p,Xo])) (.tup (.cons (.nil 3) (.cons (.refl _) .nil)))
   ·have hlowB:∀c ∈ [frA (Kq o) (k+1)],Low c:=by simp [hlow]
    have hzz:(((k+1:Nat):Int) == ((k+1:Nat):Int))=true:=S_
    refine wk ?_
    refine Xzb ?_
    refine wk ?_
    refine Xcm (((bot.setb 3000001 [pint ((k+1:Nat):Int)]).setb 3003000 [frA (Kq o) (k+1)]).put 6 (.ptr 3003000 0)) (((bot.setb 1 [pint ((k+1:Nat):Int)]).setb 3000 [frA (Kq o) (k+1)]).put 6 (.ptr 3000 0)) (by exact lt0) (by exact sb) (by exact kn0) (by exact sbr0) ?_
    refine X2o ?_
    refine wk ?_
    have e8:Xp ((Kq o).take (k+1)) = .sl (k+1) 3 (((Kq o).take (k+1)).flatMap Yj) none:=by
     unfold Xp;rw [T_,X40];congr 1;omega
    rw [e8]
    exact retP (r:=.tup [.sl (k+1) 3 (((Kq o).take (k+1)).flatMap Yj) none,pint 0]) rfl (Km.2 (by rw [←e8];simp [Xf,Xo])) (.refl _)
  ·rcases k with _|k
   ·refine wk ?_
    refine Xzb ?_
    refine wk ?_
    refine Y06 O_ ?_ (by exact lt0)
    rw [e9]
    exact sb
   ·refine wk ?_
    refine Xzb ?_
    refine wk ?_
    refine Y06 O_ ?_ (by exact lt0)
    rw [e9]
    exact sb
 ·intro xs hxs hI
  subst hxs
  rw [Xay] at hI ⊢
  rw [Nat.min_self]
  refine ⟨(bot.setb 3000 [frA (Kq o) o.queue.length]).put 6 (.ptr 3000 0),by exact sbr0,?_⟩
  have e7:(Kq o).take most=Kq o:=H_ (by rw [X40];exact hI)
  have e6:=X40 o
  rw [e7]
  generalize Kq o=fl at *
  rw [←e6]
  rcases fl with _|⟨f,fl⟩
  ·refine wk ?_
   exact retP (r:=.tup [.nilsl,pint 0]) rfl (Km.2 (by simp [X3p,Xo])) (.tup (.cons (.nil 3) (.cons (.refl _) .nil)))
  ·have e5:frA (f :: fl) (f :: fl).length = .sl (f :: fl).length 3 ((f :: fl).flatMap Yj) (some 59):=by
    rw [C_,frA,H_ S_]
   have e4:Low (Xp (f :: fl)):=(Xf _).2 trivial
   rw [e5]
   generalize f :: fl=l at *
   refine wk ?_
   exact retP (r:=.tup [Xp l,pint 0]) rfl (Km.2 (by simp [Xf,Xo])) (.refl _)
theorem V2.lowX {S:Nat→Prop} {B B' : Nat→Prop} {Φ:Imm} {μ μ' : Nat→Option Nat} {ω ω' : Nat→Option Who} {w:World} {id:Nat} {bs:List PV} (h:V2 B Φ μ ω w id bs) (hs:S id) (hl:∀c∈bs,LowI S c) (ho:∀c∈bs,X6h c) (hμ:∀i,S i→∀g,μ i=some g→μ' i=some g) (hω:∀q,OfId id q→∀g,ω g=some q→Mix Φ g→ω' g=some q∧B' g):V2 B' Φ μ' ω' w id bs:=by
 obtain ⟨g,cur,T,h1,h2,h3,h4,h5,h6,h7⟩:=h
 obtain ⟨k1,k2⟩:=hω _ (.inl rfl) g h4 (fun o u e=>by rw [h5] at e;cases e)
 refine ⟨g,cur,T,hμ _ hs _ h1,h2,k2,k1,h5,h6,fun j c hc=>?_⟩
 obtain ⟨u,r1,r2,r3,r4⟩:=h7 j c hc
 exact ⟨u,r1,r2,r3.lowI (hl c (Xc hc)) hμ,fun n k cs E e=>(r4 n k cs E e).mixJ (cs:=cs) (by rw [←e];exact r3) (by rw [←e];exact ho c (Xc hc)) (fun g eg hm=>hω _ (.inr ⟨j,rfl⟩) g eg hm)⟩
end
section
open Go.RowKit
variable {P:Program} {T:Tab}
open Classical in
theorem Vd (hT:T=Kf P) {f:FuncId} {fn:Func} {c:Code} {args:List PV} {given res:List (Nat×List PV)} {gm rm:List (Nat×PMap)} {r:PV} (hf:P.funcs[f]? = some fn) (hb:fn.body=some c) (hcb:X28 P f=true) (hno:∀p∈args,p.ownB=false) (hn:args.length≤fn.ntmps)
  (hbig:∀i∈X0 given gm,1000000≤i) (hnd:(X0 given gm).Nodup) (hok:HOk args given gm r res rm) (h:PW P fn.ntmps c (RetH T fn.results.toList r res rm) (Za args given gm))
  (hfb:∀x∈given,∀c∈x.2,X6h c) (hgm0:gm = []):Xe P f args given gm r res rm:=by
 refine ⟨hcb,fun Φ μ ω w vs himm hgl hrep hgb hgmm hlt=>(callsIn_wide (n:=0)).1 (callsIn_of_wp_marks hf hb trivial ?_)⟩
 have hnd1:(given.map (·.1)).Nodup∧(gm.map (·.1)).Nodup:=by unfold X0 at hnd;rw [List.nodup_append] at hnd;exact ⟨hnd.1,hnd.2.1⟩
 let μ0:Nat→Option Nat:=fun i=>if i∈X0 given gm then μ i else none
 let gv:Nat→Prop:=fun g=>Giv ω (X0 given gm) g∧Mix Φ g
 let ω0:Nat→Option Who:=fun g=>if gv g then ω g else none
 have hμ:∀i,i∈X0 given gm→∀g,μ i=some g→μ0 i=some g:=fun i hi g e=>by show (if _ then _ else _)=_;rw [if_pos hi];exact e
 have hω:∀i,i∈X0 given gm→∀q,OfId i q→∀g,ω g=some q→Mix Φ g→ω0 g=some q∧(w.heap.size≤g∨gv g):=by
  intro i hi q hq g e hno
  have hgv:gv g:=⟨⟨i,hi,q,hq,e⟩,hno⟩
  refine ⟨?_, .inr hgv⟩
  show (if _ then _ else _)=_
  rw [if_pos hgv];exact e
 have hω' : ∀g q,ω0 g=some q→ω g=some q∧gv g:=by
  intro g q e
  have e' : (if gv g then ω g else none)=some q:=e
  split at e'
  ·rename_i hg;exact ⟨e',hg⟩
  ·cases e'
 have hrel:Rel ⟨Φ,gv,μ0,hgl,fun g h=>h.2,[],none⟩ w fn.ntmps (Za args given gm) { tmps:=vs.toArray ++ Array.replicate (fn.ntmps - vs.toArray.size) undef,defers := [] } w:=by
  refine ⟨Φ,μ0,ω0,Kept.refl _ _,⟨rfl,fun _ e=>by cases e⟩,by simp [hrep.1];omega,himm,fun _ _ _=>rfl,fun t=>?_,fun t n k cs E e=>?_,fun id bs e=>?_,fun id eb em=>?_,fun g p e=>hlt g p (hω' g p e).1,fun id g e=>?_,fun id g e _=>e,fun b o u e=>⟨e,World.block_lt_of_cell? _ _ (himm b o u e)⟩,fun id X e=>?_,fun g p e=>.inr (hω' g p e).2⟩
  ·simp only [Za]
   cases ht:args[t]? with
   |none=>exact .undef _
   |some p=>
    obtain ⟨u,hu,hru⟩:=hrep.get ht
    have hlt:t < vs.length:=(List.getElem?_eq_some_iff.1 hu).1
    have:(vs.toArray ++ Array.replicate (fn.ntmps - vs.toArray.size) undef).getD t undef=u:=by
     rw [Array.getD_eq_getD_getElem?,Array.getElem?_append_left (by simpa using hlt)]
     simp [hu]
    rw [this]
    exact hru.lowI (hok.ha p (Xc ht)) hμ
  ·simp only [Za] at e
   cases ht:args[t]? with
   |none=>rw [ht] at e;simp at e
   |some p=>
    rw [ht] at e
    simp at e
    have:=hno p (Xc ht)
    rw [e] at this;simp [PV.ownB] at this
  ·simp only [Za] at e
   rcases Ku given _ hnd1.1 e with h1|⟨-,h1⟩
   ·have hi:id∈X0 given gm:=List.mem_append.2 (.inl (List.mem_map.2 ⟨_,h1,rfl⟩))
    exact (hgb _ h1).lowX hi (hok.hg _ h1) (hfb _ h1) hμ (hω id hi)
   ·cases h1
  ·simp only [Za] at eb em
   have hi:id∉X0 given gm:=by
    intro hi
    rcases List.mem_append.1 hi with hi|hi
    ·obtain ⟨x,hx,rfl⟩:=List.mem_map.1 hi
     rw [Vi given _ hnd1.1 x hx] at eb;cases eb
    ·obtain ⟨x,hx,rfl⟩:=List.mem_map.1 hi
     rw [Vi gm _ hnd1.2 x hx] at em;cases em
   show (if _ then _ else _)=_
   rw [if_neg hi]
  ·have e' : (if id∈X0 given gm then μ id else none)=some g:=e
   split at e'
   ·rename_i hi;exact hbig id hi
   ·cases e'
  ·simp only [Za] at e
   rcases Ku gm _ hnd1.2 e with h1|⟨-,h1⟩
   ·rw [hgm0] at h1;cases h1
   ·cases h1
 refine wpIn_mono (h _ w _ w hrel) ?_
 rintro e a' w0 ⟨σ',Φ1,W1,hq,hlat,Φ',μ',ω',hg0⟩
 obtain ⟨ms,hd1,hd2,hd3,hg⟩:=RelG.shut rfl rfl hlat hg0
 generalize hw' : shut w0 ms=w' at hg
 have fin:(∃r',V7 T σ' fn.results.toList=some r'∧Weak r' r∧AllW σ' res∧AllM σ' (fun _=>true) rm)→LeavesInM (FW none) 0 P fn a'.tmps (Y3p Φ μ ω w (X0 given gm) r res rm) a'.defers .returning w0:=by
  rintro ⟨r',hpr,hwk,hAb,hAm⟩
  rw [hd1]
  refine X10 ms w0 hd2 hd3 ?_
  rw [hw']
  obtain ⟨v,r1,r2,r3⟩:=X2a hT hg hpr
  refine ⟨v,r1,?_⟩
  -- the slot of the result
  obtain ⟨s,hs⟩:∃s:Nat,r.ownB=true→r' = r∧r=σ'.t s∧v=a'.tmps.getD s undef:=by
   by_cases ho:r.ownB=true
   ·have e1:=hwk.2 ho
    obtain ⟨t,e2,e3⟩:=r3 (by rw [←e1];exact ho)
    exact ⟨t,fun _=>⟨e1.symm,by rw [e1];exact e2,e3⟩⟩
   ·exact ⟨0,fun h=>absurd h ho⟩
  let μ2:Nat→Option Nat:=fun i=>if i∈X0 res rm then μ' i else none
  let ω2:Nat→Option Who:=fun g=>match ω' g with
   |some (.tmp t)=>if t=s∧r.ownB=true then some (.tmp 0) else none
   |x=>x
  have hμ2:∀i,i∈X0 res rm→∀g,μ' i=some g→μ2 i=some g:=fun i hi g e=>by show (if _ then _ else _)=_;rw [if_pos hi];exact e
  have hnew:∀g p,ω' g=some p→X4a ω w (X0 given gm) g:=fun g p e=>(hg.mine g p e).imp id (fun h=>h.1)
  have hω2:∀i q,OfId i q→∀g,ω' g=some q→ω2 g=some q∧X4a ω w (X0 given gm) g:=by
   intro i q hq g e
   refine ⟨?_,hnew g q e⟩
   show (match ω' g with|some (.tmp t)=>_|x=>x)=_
   rw [e]
   rcases hq with rfl|⟨j,rfl⟩<;>rfl
  have hlt2:∀g p,ω2 g=some p→g < w'.heap.size∧X4a ω w (X0 given gm) g:=by
   intro g p e
   have e' : (match ω' g with|some (.tmp t)=>if t=s∧r.ownB=true then some (.tmp 0) else none|x=>x)=some p:=e
   cases hw:ω' g with
   |none=>rw [hw] at e'; cases e'
   |some q=>exact ⟨hg.lt g q hw,hnew g q hw⟩
  have hsubR:∀i∈X0 given gm,i∈X0 res rm:=by
   intro i hi
   rcases List.mem_append.1 hi with hi|hi
   ·exact List.mem_append.2 (.inl (hok.s1 i hi))
   ·exact List.mem_append.2 (.inr (hok.s2 i hi))
  refine ⟨v,Φ',μ2,ω2,rfl,(hwk.1 _ _ _ r2).lowI hok.hr hμ2,hg.imm,fun b o u e=>(hg.ext b o u e).1,fun b o hb hng=>hg.old b o ⟨hb,fun h=>hng h.1⟩,hg.below.mono fun k hk=>⟨hk.1,fun h=>hk.2 h.1⟩,fun i hi=>?_,fun i g e=>?_,fun x hx=>?_,fun x hx=>?_,hlt2,fun n k cs E e=>?_⟩
  ·have hir:=hsubR i hi
   have hsome:∃g,μ i=some g:=by
    rcases List.mem_append.1 hi with h1|h1
    ·obtain ⟨x,hx,rfl⟩:=List.mem_map.1 h1
     obtain ⟨g,_,_,h2,_⟩:=hgb x hx;exact ⟨g,h2⟩
    ·obtain ⟨x,hx,rfl⟩:=List.mem_map.1 h1
     obtain ⟨g,h2,_⟩:=hgmm x hx;exact ⟨g,h2⟩
   obtain ⟨g,hgi⟩:=hsome
   rw [hgi]
   refine hμ2 i hir g (hg.kmu i g (hμ i hi g hgi) ?_)
   rcases List.mem_append.1 hi with h1|h1
   ·left
    obtain ⟨x,hx,rfl⟩:=List.mem_map.1 (hok.s1 i h1)
    obtain ⟨bs,hbs,-⟩:=hAb.mem x hx
    rw [hbs];simp
   ·right
    obtain ⟨x,hx,rfl⟩:=List.mem_map.1 (hok.s2 i h1)
    rw [(hAm.mem x hx).2];simp
  ·have e' : (if i∈X0 res rm then μ' i else none)=some g:=e
   split at e'
   ·assumption
   ·cases e'
  ·obtain ⟨bs,hbs,hw⟩:=hAb.mem x hx
   have hi:x.1∈X0 res rm:=List.mem_append.2 (.inl (List.mem_map.2 ⟨x,hx,rfl⟩))
   exact ((hg.box x.1 bs hbs).weak hw).lowI hi (hok.hres x hx) hμ2 (hω2 x.1)
  ·have hi:x.1∈X0 res rm:=List.mem_append.2 (.inr (List.mem_map.2 ⟨x,hx,rfl⟩))
   exact (hg.map x.1 x.2 (hAm.mem x hx).2).lowI hi (hok.hrm x hx) hμ2 (hω2 x.1)
  ·have hro:r.ownB=true:=by rw [e];rfl
   obtain ⟨e1,e2,e3⟩:=hs hro
   rw [e3]
   rcases hg.own s n k cs E (by rw [←e2,e]) with ho|⟨g,cap,cur,k1,k2,k3,k4,k5,k6,k7,k8⟩|ho
   ·exact .inl ho
   ·refine .inr (.inl ⟨g,cap,cur,k1,hnew g _ k7,k3,k4,k5,k6,?_,k8⟩)
    show (match ω' g with|some (.tmp t)=>_|x=>x)=_
    rw [k7]
    simp [hro]
   ·exact .inr (.inr ho)
 cases e with
 |ret=>exact fin hq
 |normal=>exact fin hq
 |_=>exact hq.elim
end
end Go.Proofs.YtmciloafahkolaaGreatDoor
