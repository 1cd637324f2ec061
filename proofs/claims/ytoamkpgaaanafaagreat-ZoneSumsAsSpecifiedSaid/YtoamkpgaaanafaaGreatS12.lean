/- Merged: PwZ, PwZ2, PwWk, PwT, AttrL. -/
import Derived.Test.YtoamkpgaaanafaaGreatS10
import Derived.Test.YtoamkpgaaanafaaGreatS11
/- Pure states: arrays whose cells are lists that are not written out; rounds of a loop one by one. -/
namespace Go.Proofs.YtoamkpgaaanafaaGreat
set_option linter.unusedSimpArgs false
set_option linter.unusedVariables false
set_option linter.unnecessarySimpa false
open Go.RowKit
section
variable {P:Program} {M:Nat} {Q:Exit→PS→Prop} {σ:PS}
def PWin (P:Program) (M:Nat) (c:Code) (Q:Exit→PS→Prop) (σ:PS):Prop:=
 ∀Φ0 W a w,Rel Φ0 W M σ a w→∀b k cs,b.roundOf=(FW Φ0.round).round→(FW Φ0.round).fn b.fn→(FW Φ0.round).room (cs.length+1+0)→∃e a' w',Lift Φ0 W M Q e a' w'∧ArrivesIn (Machine.fenced P (FW Φ0.round)) P (lone (b.atR a (.code c :: .inLoop c :: k)) cs w) b k cs e a' w'
theorem PWin.from {c:Code} (h:PWin P M c Q σ) {Φ0 Φ1:Ent} {W W1:World} (hl:Later Φ0 W Φ1 W1) {a:Act} {w:World} (hr:Rel Φ1 W1 M σ a w):∀b k cs,b.roundOf=(FW Φ0.round).round→(FW Φ0.round).fn b.fn→(FW Φ0.round).room (cs.length+1+0)→∃e a' w',Lift Φ0 W M Q e a' w'∧ArrivesIn (Machine.fenced P (FW Φ0.round)) P (lone (b.atR a (.code c :: .inLoop c :: k)) cs w) b k cs e a' w':=by
 have:=h Φ1 W1 a w hr
 rw [hl.round] at this
 intro b k cs h1 h2 h3
 obtain ⟨e,a',w',hq,harr⟩:=this b k cs h1 h2 h3
 exact ⟨e,a',w',hq.later hl,harr⟩
def LoopU (P:Program) (M:Nat) (c:Code) (Q:Exit→PS→Prop):Exit→PS→Prop
 | .normal,σ=>PWin P M c Q σ
 |e,σ=>Q e σ
theorem PWin.round {c:Code} (h:PW P M c (LoopU P M c Q) σ):PWin P M c Q σ:=by
 intro Φ0 W a w hr b k cs hro hb hroom
 obtain ⟨e,a₁,w₁,⟨σ₁,Φ1,W1,hq,hl,hrel⟩,harr⟩:=h Φ0 W a w hr b (.inLoop c :: k) cs hro hb hroom
 cases e with
 |normal=>
  obtain ⟨e₂,a₂,w₂,hq₂,harr₂⟩:=PWin.from hq hl hrel b k cs hro hb hroom
  exact ⟨e₂,a₂,w₂,hq₂, .of_steps (StepsIn.trans harr (.one (fenced_calm hb hroom rfl) stepR_inLoop)) harr₂⟩
 |exit id=>exact ⟨_,a₁,w₁,⟨σ₁,Φ1,W1,hq,hl,hrel⟩, .pass (x:=.inLoop c) rfl (fun _ _=>.inl (by simp)) harr⟩
 |goto l=>exact ⟨_,a₁,w₁,⟨σ₁,Φ1,W1,hq,hl,hrel⟩, .pass (x:=.inLoop c) rfl (fun _ _=>.inl (by simp)) harr⟩
 |ret=>exact ⟨_,a₁,w₁,⟨σ₁,Φ1,W1,hq,hl,hrel⟩, .pass (x:=.inLoop c) rfl (fun _ _=>.inl (by simp)) harr⟩
 |panic ch=>exact ⟨_,a₁,w₁,⟨σ₁,Φ1,W1,hq,hl,hrel⟩, .pass (x:=.inLoop c) rfl (fun _ _=>.inl (by simp)) harr⟩
 |outgrown=>exact ⟨_,a₁,w₁,⟨σ₁,Φ1,W1,hq,hl,hrel⟩, .pass (x:=.inLoop c) rfl (fun _ _=>.inl (by simp)) harr⟩
theorem loopU_exit {c:Code} {j:Nat} (h:Q (.exit j) σ):LoopU P M c Q (.exit j) σ:=h
theorem loopU_ret {c:Code} (h:Q .ret σ):LoopU P M c Q .ret σ:=h
end
section
variable {κ:Nat→Nat} {S:Nat→Prop} {σ σ' : PS}
theorem SubR.isb {i:Nat} {c:List PV} (h:SubR κ S σ (σ'.setb i c)):SubR κ S σ (σ'.setb i c):=h
theorem SubR.ism {i:Nat} {c:PMap} (h:SubR κ S σ (σ'.setm i c)):SubR κ S σ (σ'.setm i c):=h
theorem SubR.isp {i:Nat} {c:PV} (h:SubR κ S σ (σ'.put i c)):SubR κ S σ (σ'.put i c):=h
end
def pu32 (z:Int):PV:=.val (.int .u32 z)
def pu64 (z:Int):PV:=.val (.int .u64 z)
theorem low_pu32 (z:Int):Low (pu32 z)↔True:=low_val _
theorem low_pu64 (z:Int):Low (pu64 z)↔True:=low_val _
theorem len_map {α β:Type} {f:α→β} {l:List α} {n:Nat} (h:l.length=n):(l.map f).length=n:=by rw [List.length_map,h]
theorem bare_map {α:Type} {f:α→PV} (h:∀x,(f x).bare=f x) (l:List α):(l.map f).map PV.bare=l.map f:=by rw [List.map_map];exact List.map_congr_left fun x _=>h x
theorem one_map {α:Type} {f:α→PV} (h:∀x,(f x).one=true) (l:List α):(l.map f).all PV.one=true:=by rw [List.all_map,List.all_eq_true];exact fun x _=>h x
theorem low_map {α:Type} {f:α→PV} (h:∀x,Low (f x)) (l:List α):∀c∈l.map f,Low c:=by
 intro c hc
 obtain ⟨z,-,rfl⟩:=List.mem_map.1 hc
 exact h z
theorem RenQL.lowE {κ:Nat→Nat} {S:Nat→Prop} {qs ps:List PV} (h:qs=ps) (hl:∀p∈ps,Low p):RenQL κ S qs ps:=by subst h;exact RenQL.low hl
section
variable {P:Program} {T:Tab} {σ:PS} {o:Oper} {i base:Nat} {ops:Array Oper} {ok:Nat→Nat→Bool} {rest:List (Nat×Oper)} {K:PS→Prop}
def notI64:IntKind→Bool
 | .i64=>false
 |_=>true
theorem PWops.arU {d:Nat} {k:IntKind} {z:Int} (hk:isArith o.op=true) (hg:pguard ops σ o=some true) (hd:o.dst=some d) (hE:feff (presE T (headB ops o.dst) (base+i) (σ.only (ok i)) o.op)=some (.val (.int k z))) (hn:notI64 k=true) (hb:σ.freeB (base+i)=true) (kn:PWops P T ops base ok rest K (σ.put d (.val (.int k z)))):PWops P T ops base ok ((i,o) :: rest) K σ:=PWops.val hg hd hE hb kn
theorem PWops.idxE1 {d n:Nat} {e:TypeId} {ag:Bool} {z:Int} {cs:List PV} {kk:IntKind} {x ix:Operand} {t:TypeId} {ti:TyI} (hg:pguard ops σ o=some true) (hd:o.dst=some d) (hop:o.op = .indexAddr t x ix) (hx:pev σ x = .ep cs 0) (hi:pev σ ix = .val (.int kk z)) (ht:T.at t=some ti) (hk:ti.kind = .arr n e 1 ag) (hb:σ.freeB (base+i)=true) (h0:0≤z∧z < n)
  (kn:PWops P T ops base ok rest K (σ.put d (.ep cs z.toNat))):PWops P T ops base ok ((i,o) :: rest) K σ:=by
 refine pres_pval hg hd ?_ hb kn
 have h1:(0:Int)≤z∧z < (n:Int):=h0
 simp [hop,presE,pvalA,pval,pev_only,hx,hi,ht,hk,pindexAt,h1]
theorem PWops.idxP1 {d n m:Nat} {e:TypeId} {ag:Bool} {z:Int} {kk:IntKind} {x ix:Operand} {t:TypeId} {ti:TyI} (hg:pguard ops σ o=some true) (hd:o.dst=some d) (hop:o.op = .indexAddr t x ix) (hx:pev σ x = .ptr m 0) (hi:pev σ ix = .val (.int kk z)) (ht:T.at t=some ti) (hk:ti.kind = .arr n e 1 ag) (hb:σ.freeB (base+i)=true) (h0:0≤z∧z < n)
  (kn:PWops P T ops base ok rest K (σ.put d (.ptr m z.toNat))):PWops P T ops base ok ((i,o) :: rest) K σ:=by
 refine pres_pval hg hd ?_ hb kn
 have h1:(0:Int)≤z∧z < (n:Int):=h0
 simp [hop,presE,pvalA,pval,pev_only,hx,hi,ht,hk,pindexAt,h1]
theorem PWops.idxV {α:Type} [Inhabited α] {d n:Nat} {e:TypeId} {z:Int} {f:α→PV} {l:List α} {q:PV} {kk:IntKind} {x ix:Operand} {t:TypeId} {ti:TyI} (hg:pguard ops σ o=some true) (hd:o.dst=some d) (hop:o.op = .index t x ix) (hx:pev σ x = .agg (l.map f)) (hi:pev σ ix = .val (.int kk z)) (ht:T.at t=some ti) (hk:ti.kind = .arr n e 1 false) (hb:σ.freeB (base+i)=true) (h0:0≤z∧z < n∧z < l.length) (hq:fval (f (l.getD z.toNat default)).bare=some q)
  (kn:PWops P T ops base ok rest K (σ.put d q)):PWops P T ops base ok ((i,o) :: rest) K σ:=by
 refine PWops.valEq hg hd (p:=(f (l.getD z.toNat default)).bare) ?_ (fval_eq hq) hb kn
 have h1:(0:Int)≤z∧z < (n:Int):=⟨h0.1,h0.2.1⟩
 have h2:(l.map f)[z.toNat]? = some (f (l.getD z.toNat default)):=map_get (getD_get default (by omega))
 simp [hop,presE,pvalA,pval,pev_only,hx,hi,ht,hk,pindexV,h1,asVal,h2]
theorem PWops.ldG {d m:Nat} {cs:List PV} {x:Operand} {t:TypeId} {kd:TD} {zr:List PV} {es:List SK} (hg:pguard ops σ o=some true) (hd:o.dst=some d) (hop:o.op = .load t x) (hx:pev σ x = .ep cs 0) (ht:T.at t=some ⟨m,true,kd,zr,es⟩) (hb:σ.freeB (base+i)=true) (hl:cs.length=m) (hr:cs.map PV.bare=cs)
  (kn:PWops P T ops base ok rest K (σ.put d (.agg cs))):PWops P T ops base ok ((i,o) :: rest) K σ:=by
 refine PWops.ldA hg hd hop hx ht hb (by omega) ?_ kn
 rw [List.drop_zero,List.take_of_length_le (by omega)];exact hr
theorem PWops.ldMB {α:Type} [Inhabited α] {d id off:Nat} {f:α→PV} {l:List α} {q:PV} {x:Operand} {t:TypeId} {ti:TyI} (hg:pguard ops σ o=some true) (hd:o.dst=some d) (hop:o.op = .load t x) (hx:pev σ x = .ptr id off) (ht:T.at t=some ti) (ha:ti.agg=false) (hb:σ.freeB (base+i)=true) (hbs:(σ.only (ok i)).b id=some (l.map f)) (hl:off < l.length) (hq:fval (f (l.getD off default))=some q) (hn:(f (l.getD off default)).ownB=false)
  (kn:PWops P T ops base ok rest K (σ.put d q)):PWops P T ops base ok ((i,o) :: rest) K σ:=
 PWops.ldB hg hd hop hx ht ha hb hbs (map_get (getD_get default hl)) hn (by rw [fval_eq hq];exact kn)
theorem set_map {α β:Type} (f:α→β) (l:List α) (j:Nat) (x:α):(l.map f).set j (f x)=(l.set j x).map f:=by
 rw [List.map_set]
theorem splice_one {bs:List PV} {off:Nat} {c:PV} (h:off < bs.length):splice bs off [c]=bs.set off c:=by
 unfold splice
 rw [List.set_eq_take_append_cons_drop,if_pos h];simp
theorem PWops.stMB {α:Type} {id off:Nat} {f:α→PV} {l:List α} {v:α} {x y:Operand} {t:TypeId} {ti:TyI} (hg:pguard ops σ o=some true) (hd:o.dst=none) (hop:o.op = .store t x y) (hx:pev σ x = .ptr id off) (hn:(ownPV σ y).ownB=false) (ht:T.at t=some ti) (hb:σ.freeB (base+i)=true) (hbs:(σ.only (ok i)).b id=some (l.map f)) (hp:pcells (pev σ y)=some [f v]) (hs:ti.size=1) (hl:off < l.length)
  (kn:PWops P T ops base ok rest K (σ.setb id ((l.set off v).map f))):PWops P T ops base ok ((i,o) :: rest) K σ:=by
 refine PWops.stB hg hd hop hx hn hp ht hb hbs ⟨by rw [hs];rfl,by simp;omega⟩ ?_ kn
 rw [splice_one (by simpa using hl),set_map]
theorem PWops.slcP {d id o' n k h l:Nat} {e:TypeId} {ag:Bool} {x:Operand} {lo hi:Option Operand} {t:TypeId} {ti:TyI} (hg:pguard ops σ o=some true) (hd:o.dst=some d) (hop:o.op = .slice t x lo hi none) (hx:pev σ x = .ptr id o') (ht:T.at t=some ti) (hk:ti.kind = .arr n e k ag) (hb:σ.freeB (base+i)=true) (hh:pbound n n (hi.map (pev σ))=some h) (hlo:pbound 0 h (lo.map (pev σ))=some l) (hn:n≤1000000000)
  (kn:PWops P T ops base ok rest K (σ.put d (.msl id (o' + l * k) (h - l) k))):PWops P T ops base ok ((i,o) :: rest) K σ:=by
 refine pres_pval hg hd ?_ hb kn
 have e1:∀x:Operand,pev (σ.only (ok i)) x=pev σ x:=fun x=>pev_only ..
 have e2:∀x:Option Operand,x.map (pev (σ.only (ok i)))=x.map (pev σ):=fun x=>by cases x<;>simp [e1]
 simp [hop,presE,pvalA,pval,pev_only,e2,hx,ht,hk,pslice,hh,hlo,hn]
end
end Go.Proofs.YtoamkpgaaanafaaGreat

/- Contracts of functions that only read, called with slices of variables. -/
namespace Go.Proofs.YtoamkpgaaanafaaGreat
set_option linter.unusedSimpArgs false
set_option linter.unusedVariables false
set_option linter.unnecessarySimpa false
open Go.RowKit
def immA (w:World):Imm:=fun b o=>w.cell? ⟨b,o,none⟩
theorem Flat.lowF {p:PV} (h:Flat p):Low p:=by
 induction h with
 |undef=>exact .undef
 |val v=>exact .val v
 |nilsl=>exact .nilsl
 |agg cs h ih=>exact .agg cs ih
 |tup cs h ih=>exact .tup cs ih
inductive AsRead (given:List (Nat×List PV)):PV→PV→Prop
 |same (p:PV):AsRead given p p
 |msl (id o n k:Nat) (bs:List PV) (h:(id,bs)∈given) (hl:o+n * k≤bs.length):AsRead given (.msl id o n k) (.sl n k ((bs.drop o).take (n * k)) none)
inductive AsReadL (given:List (Nat×List PV)):List PV→List PV→Prop
 |nil:AsReadL given [] []
 |cons {p q:PV} {ps qs:List PV} (h:AsRead given p q) (hs:AsReadL given ps qs):AsReadL given (p :: ps) (q :: qs)
theorem AsRead.rep {given:List (Nat×List PV)} {p q:PV} (h:AsRead given p q) {B:Nat→Prop} {Φ:Imm} {μ:Nat→Option Nat} {ω:Nat→Option Who} {w:World} {v:Value} (himm:∀b o u,Φ b o=some u→w.cell? ⟨b,o,none⟩=some u) (hgb:∀x∈given,BoxAt B Φ μ ω w x.1 x.2) (hr:Rep Φ μ p v):Rep (immA w) μ q v:=by
 cases h with
 |same=>exact hr.mono himm (fun _ _ e=>e)
 |msl id o n k bs h hl=>
  obtain ⟨a,cap,rfl,h1,h2,h3⟩:=hr.msl_inv
  obtain ⟨g,cur,T,k1,k2,-,-,-,k6,k7⟩:=hgb _ h
  by_cases hn:n=0
  ·subst hn
   rw [Nat.zero_mul,List.take_zero]
   exact .sl0 k none a cap h2
  ·obtain ⟨g',e1,rfl⟩:=h3 (by omega)
   simp only at k1
   rw [k1] at e1
   cases e1
   have hlen:((bs.drop o).take (n * k)).length=n * k:=by rw [List.length_take,List.length_drop];omega
   have hget:∀j c,((bs.drop o).take (n * k))[j]? = some c→bs[o+j]? = some c:=by
    intro j c hc
    rw [List.getElem?_take] at hc
    split at hc
    ·rwa [List.getElem?_drop] at hc
    ·cases hc
   have hcell:∀j,immA w g (o+j)=cur[o+j]?:=fun j=>by simp only [immA,World.cell?,k2];simp
   refine .sl n k _ none g o cap (fun j=>cur.getD (o+j) undef) hlen h1 h2 (fun j hj=>?_) (fun j c hc=>?_)
   ·rw [hcell]
    obtain ⟨c,hc⟩:∃c,((bs.drop o).take (n * k))[j]? = some c:=⟨_,List.getElem?_eq_getElem hj⟩
    obtain ⟨u,r1,-⟩:=k7 _ _ (hget j c hc)
    rw [r1,Array.getD_eq_getD_getElem?,r1];rfl
   ·obtain ⟨u,r1,-,r3,-⟩:=k7 _ _ (hget j c hc)
    rw [Array.getD_eq_getD_getElem?,r1]
    exact r3.mono himm (fun _ _ e=>e)
theorem AsReadL.rep {given:List (Nat×List PV)} {ps qs:List PV} (h:AsReadL given ps qs) {B:Nat→Prop} {Φ:Imm} {μ:Nat→Option Nat} {ω:Nat→Option Who} {w:World} (himm:∀b o u,Φ b o=some u→w.cell? ⟨b,o,none⟩=some u) (hgb:∀x∈given,BoxAt B Φ μ ω w x.1 x.2):∀{vs:List Value},RepL Φ μ ps vs→RepL (immA w) μ qs vs:=by
 induction h with
 |nil=>exact fun hr=>⟨hr.1,fun j c u hc=>by simp at hc⟩
 |cons h hs ih=>
  intro vs hr
  cases vs with
  |nil=>exact absurd hr.1 (by simp)
  |cons v vs=>
   have h1:=h.rep himm hgb (hr.2 0 _ _ rfl rfl)
   have h2:=ih (vs:=vs) ⟨by simpa using hr.1,fun j c u hc hu=>hr.2 (j+1) c u (by simpa using hc) (by simpa using hu)⟩
   exact .cons h1 h2
section
variable {P:Program} {T:Tab} {σ:PS} {o:Oper} {i base:Nat} {ops:Array Oper} {ok:Nat→Nat→Bool} {rest:List (Nat×Oper)} {K:PS→Prop}
theorem PWops.valE {d:Nat} {p q:PV} (hg:pguard ops σ o=some true) (hd:o.dst=some d) (hE:feff (presE T (headB ops o.dst) (base+i) (σ.only (ok i)) o.op)=some p) (e:p=q) (hb:σ.freeB (base+i)=true) (k:PWops P T ops base ok rest K (σ.put d q)):PWops P T ops base ok ((i,o) :: rest) K σ:=
 PWops.val hg hd (by rw [hE,e]) hb k
theorem PWops.cvI {d:Nat} {z:Int} {x:Operand} {ts td:TypeId} (hop:o.op = .convert ts td x) (hg:pguard ops σ o=some true) (hd:o.dst=some d) (hE:feff (presE T (headB ops o.dst) (base+i) (σ.only (ok i)) o.op)=some (.val (.int .i64 (IntKind.i64.wrap z)))) (h1 : -9223372036854775808≤z) (h2:z≤9223372036854775807) (hb:σ.freeB (base+i)=true) (k:PWops P T ops base ok rest K (σ.put d (.val (.int .i64 z)))):PWops P T ops base ok ((i,o) :: rest) K σ:=
 PWops.valE hg hd hE (by rw [wrap64_id h1 h2]) hb k
end
end Go.Proofs.YtoamkpgaaanafaaGreat

/- The walk over pure states, as the default of an argument. -/
namespace Go.Proofs.YtoamkpgaaanafaaGreat
set_option linter.unusedSimpArgs false
set_option linter.unusedVariables false
set_option linter.unnecessarySimpa false
open Go.RowKit
structure Hold2 (q:Prop):Prop where
 out:q
theorem ops0 {p q:Prop} (k:q) (h:Hold2 q→p:=by intro hHold;((with_reducible refine PWops.idd ?_);first|(first|refine PWops.cvI rfl rfl rfl rfl (by (first|omega|(dsimp only;omega))) (by (first|omega|(dsimp only;omega))) rfl ?_|refine PWops.stepA rfl ?_|refine PWops.doneI rfl ?_|refine PWops.boolK true rfl rfl rfl rfl (by (first|rfl|assumption|(simp only [decide_eq_true_eq,decide_eq_false_iff_not,bne_iff_ne,beq_iff_eq,beq_eq_false_iff_ne,bne_eq_false_iff_eq,ne_eq];omega))) rfl ?_|refine PWops.boolK false rfl rfl rfl rfl (by (first|rfl|assumption|(simp only [decide_eq_true_eq,decide_eq_false_iff_not,bne_iff_ne,beq_iff_eq,beq_eq_false_iff_ne,bne_eq_false_iff_eq,ne_eq];omega))) rfl ?_|refine PWops.fitsK rfl rfl rfl rfl (by (first|omega|(dsimp only;omega))) (by (first|omega|(dsimp only;omega))) rfl ?_|refine PWops.remK rfl rfl rfl rfl (by (first|omega|(dsimp only;omega))) rfl ?_|refine PWops.quoK rfl rfl rfl rfl (by (first|omega|(dsimp only;omega))) rfl ?_|refine PWops.app rfl rfl rfl rfl rfl rfl rfl rfl (by (first|omega|(dsimp only;omega))) (by (first|omega|(dsimp only;omega))) (by first|rfl|exact secL_one _|exact putL_one _|exact one_pint _|exact one_pstr _|exact one_pbyte _|exact one_pattrs _) ?_|refine PWops.app0 rfl rfl rfl rfl rfl rfl rfl rfl (by (first|omega|(dsimp only;omega))) (by (first|omega|(dsimp only;omega))) (by first|rfl|exact secL_one _|exact putL_one _|exact one_pint _|exact one_pstr _|exact one_pbyte _|exact one_pattrs _) ?_|refine PWops.idx1 rfl rfl rfl rfl rfl rfl rfl rfl (by (first|omega|(dsimp only;omega))) ?_|refine PWops.idx rfl rfl rfl rfl rfl rfl rfl rfl (by (first|omega|(dsimp only;omega))) ?_|refine PWops.ld rfl rfl rfl rfl rfl rfl rfl (by assumption) rfl ?_|refine PWops.ldA rfl rfl rfl rfl rfl rfl (by (first|omega|(dsimp only;omega))) (by assumption) ?_|refine PWops.str rfl rfl rfl rfl rfl rfl rfl rfl rfl rfl rfl ?_)|(first|refine PWops.arU rfl rfl rfl rfl rfl rfl ?_|refine PWops.boxA rfl rfl rfl rfl rfl (by (first|rfl|exact secL_one _|exact dcellL_one _|exact putL_one _|exact one_map (fun _=>rfl) _)) (by (first|rfl|exact secL_bare _|exact dcellL_bare _|exact putL_bare _|exact bare_map (fun _=>rfl) _)) ?_|refine PWops.litA rfl rfl rfl rfl rfl rfl rfl (by (first|rfl|exact secL_len _|exact dcellL_len _|exact putL_len _|exact len_map (by assumption)|exact len_map rfl)) rfl rfl rfl (by (first|rfl|exact secL_one _|exact dcellL_one _|exact putL_one _|exact one_map (fun _=>rfl) _)) (by (first|rfl|exact secL_bare _|exact dcellL_bare _|exact putL_bare _|exact bare_map (fun _=>rfl) _)) ?_|refine PWops.shlK rfl rfl rfl rfl rfl rfl (by (first|omega|(dsimp only;omega)|decide)) ?_|refine PWops.shrK rfl rfl rfl rfl rfl rfl (by (first|omega|(dsimp only;omega)|decide)) ?_|refine PWops.ldBC rfl rfl rfl rfl rfl rfl rfl rfl (by (first|exact secL_len|exact dcellL_len|exact putL_len|(intro;rfl))) (by (first|omega|(dsimp only;omega))) (by (first|rfl|exact dcellL_64 _)) rfl ?_|refine PWops.ldRB rfl rfl rfl rfl rfl rfl (by (first|exact secL_len|exact dcellL_len|exact putL_len|(intro;rfl))) (by (first|omega|(dsimp only;omega))) (by (first|exact secL_bare|exact dcellL_bare|exact putL_bare|(intro;rfl))) ?_|refine PWops.ldSec rfl rfl rfl rfl rfl rfl rfl (by first|with_reducible rfl|with_reducible exact dC_flat _) (by rfl) (by (first|omega|(dsimp only;omega))) ?_|refine PWops.ldBR rfl rfl rfl rfl rfl rfl rfl (by (first|exact secL_len|exact dcellL_len|exact putL_len|(intro;rfl))) (by (first|omega|(dsimp only;omega))) (by (first|exact secL_bare _|exact dcellL_bare _|exact putL_bare _|rfl)) ?_|refine PWops.lkp rfl rfl rfl rfl rfl rfl rfl rfl rfl rfl rfl (by assumption) ?_|refine PWops.ldAll rfl rfl rfl rfl rfl rfl rfl (by (first|rfl|exact secL_len _|exact dcellL_len _|exact putL_len _|exact len_map (by assumption)|exact len_map rfl)) (by (first|rfl|exact secL_bare _|exact dcellL_bare _|exact putL_bare _|exact bare_map (fun _=>rfl) _)) ?_|refine PWops.stAll rfl rfl rfl rfl rfl rfl rfl rfl rfl (by (first|rfl|exact secL_len _|exact dcellL_len _|exact putL_len _|exact len_map (by assumption)|exact len_map rfl)) (by (first|rfl|exact secL_len _|exact dcellL_len _|exact putL_len _|exact len_map (by assumption)|exact len_map rfl)) (by (first|rfl|exact secL_one _|exact dcellL_one _|exact putL_one _|exact one_map (fun _=>rfl) _)) (by (first|rfl|exact secL_bare _|exact dcellL_bare _|exact putL_bare _|exact bare_map (fun _=>rfl) _)) ?_|refine PWops.idxM rfl rfl rfl rfl rfl rfl rfl rfl (by (first|omega|(dsimp only;omega))) ?_|refine PWops.idxP1 rfl rfl rfl rfl rfl rfl rfl rfl (by (first|omega|(dsimp only;omega))) ?_|refine PWops.idxP rfl rfl rfl rfl rfl rfl rfl rfl (by (first|omega|(dsimp only;omega))) ?_|(refine PWops.call rfl rfl rfl (by assumption) ?_)|(refine PWops.callR rfl rfl (by assumption) (by (first|exact trivial|exact ⟨⟨rfl,rfl⟩,trivial⟩|exact ⟨⟨rfl,rfl⟩,⟨rfl,rfl⟩,trivial⟩|exact ⟨⟨rfl,rfl⟩,⟨rfl,rfl⟩,⟨rfl,rfl⟩,trivial⟩|exact ⟨⟨rfl,rfl⟩,⟨rfl,rfl⟩,⟨rfl,rfl⟩,⟨rfl,rfl⟩,trivial⟩|exact ⟨⟨rfl,rfl⟩,⟨rfl,rfl⟩,⟨rfl,rfl⟩,⟨rfl,rfl⟩,⟨rfl,rfl⟩,trivial⟩|exact ⟨⟨rfl,rfl⟩,⟨rfl,rfl⟩,⟨rfl,rfl⟩,⟨rfl,rfl⟩,⟨rfl,rfl⟩,⟨rfl,rfl⟩,trivial⟩|exact ⟨⟨rfl,rfl⟩,⟨rfl,rfl⟩,⟨rfl,rfl⟩,⟨rfl,rfl⟩,⟨rfl,rfl⟩,⟨rfl,rfl⟩,⟨rfl,rfl⟩,trivial⟩|exact ⟨⟨rfl,rfl⟩,⟨rfl,rfl⟩,⟨rfl,rfl⟩,⟨rfl,rfl⟩,⟨rfl,rfl⟩,⟨rfl,rfl⟩,⟨rfl,rfl⟩,⟨rfl,rfl⟩,trivial⟩)) (by (first|exact trivial|exact ⟨⟨rfl,rfl⟩,trivial⟩|exact ⟨⟨rfl,rfl⟩,⟨rfl,rfl⟩,trivial⟩|exact ⟨⟨rfl,rfl⟩,⟨rfl,rfl⟩,⟨rfl,rfl⟩,trivial⟩|exact ⟨⟨rfl,rfl⟩,⟨rfl,rfl⟩,⟨rfl,rfl⟩,⟨rfl,rfl⟩,trivial⟩|exact ⟨⟨rfl,rfl⟩,⟨rfl,rfl⟩,⟨rfl,rfl⟩,⟨rfl,rfl⟩,⟨rfl,rfl⟩,trivial⟩|exact ⟨⟨rfl,rfl⟩,⟨rfl,rfl⟩,⟨rfl,rfl⟩,⟨rfl,rfl⟩,⟨rfl,rfl⟩,⟨rfl,rfl⟩,trivial⟩|exact ⟨⟨rfl,rfl⟩,⟨rfl,rfl⟩,⟨rfl,rfl⟩,⟨rfl,rfl⟩,⟨rfl,rfl⟩,⟨rfl,rfl⟩,⟨rfl,rfl⟩,trivial⟩|exact ⟨⟨rfl,rfl⟩,⟨rfl,rfl⟩,⟨rfl,rfl⟩,⟨rfl,rfl⟩,⟨rfl,rfl⟩,⟨rfl,rfl⟩,⟨rfl,rfl⟩,⟨rfl,rfl⟩,trivial⟩)) rfl (by first|exact .inl rfl|exact .inr (fun _ _=>rfl)) ?_)|(refine PWops.callH rfl rfl (by assumption) (by (first|exact trivial|exact ⟨⟨rfl,rfl⟩,trivial⟩|exact ⟨⟨rfl,rfl⟩,⟨rfl,rfl⟩,trivial⟩|exact ⟨⟨rfl,rfl⟩,⟨rfl,rfl⟩,⟨rfl,rfl⟩,trivial⟩|exact ⟨⟨rfl,rfl⟩,⟨rfl,rfl⟩,⟨rfl,rfl⟩,⟨rfl,rfl⟩,trivial⟩|exact ⟨⟨rfl,rfl⟩,⟨rfl,rfl⟩,⟨rfl,rfl⟩,⟨rfl,rfl⟩,⟨rfl,rfl⟩,trivial⟩|exact ⟨⟨rfl,rfl⟩,⟨rfl,rfl⟩,⟨rfl,rfl⟩,⟨rfl,rfl⟩,⟨rfl,rfl⟩,⟨rfl,rfl⟩,trivial⟩|exact ⟨⟨rfl,rfl⟩,⟨rfl,rfl⟩,⟨rfl,rfl⟩,⟨rfl,rfl⟩,⟨rfl,rfl⟩,⟨rfl,rfl⟩,⟨rfl,rfl⟩,trivial⟩|exact ⟨⟨rfl,rfl⟩,⟨rfl,rfl⟩,⟨rfl,rfl⟩,⟨rfl,rfl⟩,⟨rfl,rfl⟩,⟨rfl,rfl⟩,⟨rfl,rfl⟩,⟨rfl,rfl⟩,trivial⟩)) (by (first|exact trivial|exact ⟨⟨rfl,rfl⟩,trivial⟩|exact ⟨⟨rfl,rfl⟩,⟨rfl,rfl⟩,trivial⟩|exact ⟨⟨rfl,rfl⟩,⟨rfl,rfl⟩,⟨rfl,rfl⟩,trivial⟩|exact ⟨⟨rfl,rfl⟩,⟨rfl,rfl⟩,⟨rfl,rfl⟩,⟨rfl,rfl⟩,trivial⟩|exact ⟨⟨rfl,rfl⟩,⟨rfl,rfl⟩,⟨rfl,rfl⟩,⟨rfl,rfl⟩,⟨rfl,rfl⟩,trivial⟩|exact ⟨⟨rfl,rfl⟩,⟨rfl,rfl⟩,⟨rfl,rfl⟩,⟨rfl,rfl⟩,⟨rfl,rfl⟩,⟨rfl,rfl⟩,trivial⟩|exact ⟨⟨rfl,rfl⟩,⟨rfl,rfl⟩,⟨rfl,rfl⟩,⟨rfl,rfl⟩,⟨rfl,rfl⟩,⟨rfl,rfl⟩,⟨rfl,rfl⟩,trivial⟩|exact ⟨⟨rfl,rfl⟩,⟨rfl,rfl⟩,⟨rfl,rfl⟩,⟨rfl,rfl⟩,⟨rfl,rfl⟩,⟨rfl,rfl⟩,⟨rfl,rfl⟩,⟨rfl,rfl⟩,trivial⟩)) rfl (by first|exact .inl rfl|exact .inr (fun _ _=>rfl)) ?_)|refine PWops.idxZ1 rfl rfl rfl rfl rfl rfl rfl rfl (by (first|omega|(dsimp only;omega))) ?_|refine PWops.idxZ rfl rfl rfl rfl rfl rfl rfl rfl (by (first|omega|(dsimp only;omega))) ?_|refine PWops.ld rfl rfl rfl rfl rfl rfl rfl rfl rfl ?_|refine PWops.slcL rfl rfl rfl rfl rfl rfl rfl rfl (by (first|omega|(dsimp only;omega))) ?_|refine PWops.slcH rfl rfl rfl rfl rfl rfl rfl rfl (by (first|omega|(dsimp only;omega))) ?_|refine PWops.slcRL rfl rfl rfl rfl rfl rfl rfl rfl (by intro;rfl) (by (first|omega|(dsimp only;omega))) ?_|refine PWops.slcRH rfl rfl rfl rfl rfl rfl rfl rfl (by intro;rfl) (by (first|omega|(dsimp only;omega))) ?_|refine PWops.slcM rfl rfl rfl rfl rfl rfl rfl rfl rfl (by (first|omega|(dsimp only;omega))) ?_|refine PWops.ldM rfl rfl rfl rfl rfl rfl rfl (by (first|omega|(dsimp only;omega))) rfl ?_|refine PWops.ldR rfl rfl rfl rfl rfl rfl rfl (by (first|exact secL_len|exact dcellL_len|exact putL_len|(intro;rfl))) (by (first|omega|(dsimp only;omega))) rfl rfl ?_|refine PWops.ldRA rfl rfl rfl rfl rfl rfl (by intro;rfl) (by (first|omega|(dsimp only;omega))) rfl ?_|refine PWops.slcP rfl rfl rfl rfl rfl rfl rfl rfl rfl (by decide) ?_|refine PWops.idxE1 rfl rfl rfl rfl rfl rfl rfl rfl (by (first|omega|(dsimp only;omega))) ?_|refine PWops.ldG rfl rfl rfl rfl rfl rfl (by (first|rfl|exact secL_len _|exact dcellL_len _|exact putL_len _|exact len_map (by assumption)|exact len_map rfl)) (by (first|rfl|exact secL_bare _|exact dcellL_bare _|exact putL_bare _|exact bare_map (fun _=>rfl) _)) ?_|refine PWops.ldMB rfl rfl rfl rfl rfl rfl rfl rfl (by (first|omega|(dsimp only;omega))) rfl rfl ?_|refine PWops.stMB rfl rfl rfl rfl rfl rfl rfl rfl rfl rfl (by (first|omega|(dsimp only;omega))) ?_|refine PWops.idxV rfl rfl rfl rfl rfl rfl rfl rfl (by (first|omega|(dsimp only;omega))) rfl ?_));exact hHold.out):p:=h ⟨k⟩
theorem jw0 {p q:Prop} (k:q) (h:Hold2 q→p:=by intro hHold;((repeat (first|(with_reducible first|refine thenJ ?_|refine thenJ_ret ?_|refine thenJ_exit ?_|refine blockJ ?_|refine blockJ_exit ?_|refine blockJ_ret ?_|refine blockJ_other (by decide) ?_|refine loopJ_exit ?_|refine loopJ_ret ?_|refine PWJ.seq ?_|refine PWJ.block ?_|refine PWJ.skip ?_|refine PWJ.ret ?_|refine PWJ.exit ?_|refine PWJ.condT rfl ?_|refine PWJ.condF rfl ?_)|refine PWJ.condT rfl ?_|refine PWJ.condF rfl ?_)));exact hHold.out):p:=h ⟨k⟩
theorem li0 {p:Prop} (h:p:=by (repeat (first|exact li_nil|exact lb_nil|refine lb_cons ?_ ?_|refine li_cons ?_ ?_|exact dB_lowI (by first|simp [ResIds]|simp [ResIds,dG,dMs,jG]|simp [ResIds,dG,dMs,crG,crM]|simp [ResIds,dG,dMs]) (by first|simp [ResIds]|simp [ResIds,dG,dMs,jG]|simp [ResIds,dG,dMs,crG,crM]|simp [ResIds,dG,dMs]) _|exact li_low (dC_low _)|exact LowI.ptr _ _ (by first|simp [ResIds]|simp [ResIds,dG,dMs,jG]|simp [ResIds,dG,dMs,crG,crM]|simp [ResIds,dG,dMs])|exact LowI.mref _ (by first|simp [ResIds]|simp [ResIds,dG,dMs,jG]|simp [ResIds,dG,dMs,crG,crM]|simp [ResIds,dG,dMs])|exact LowI.msl _ _ _ _ (by first|simp [ResIds]|simp [ResIds,dG,dMs,jG]|simp [ResIds,dG,dMs,crG,crM]|simp [ResIds,dG,dMs])|exact LowI.val _|exact LowI.nilsl|exact Low.lowI (low_pputs _)|exact Low.lowI (psec_low _)|exact li_low (secL_low _)|exact li_low (by assumption)|refine LowI.agg _ ?_|refine LowI.fn _ _ ?_|refine LowI.tup _ ?_|refine LowI.sl _ _ _ _ ?_))):p:=h
theorem rq0 {p:Prop} (h:p:=by (first|exact .inl (.ptr _ _ rfl)|exact .inl (.msl _ _ _ _ rfl)|exact .inl (.mref _ rfl)|exact .inl (.low _ (by exact lw))|exact .inr (.inl (.low _ (by exact lw)))|exact .inr (.inr ⟨_,_,rfl,rfl⟩))):p:=h
theorem rl0 {p:Prop} (h:p:=by (first|exact RenQL.low (by first|assumption|exact hlow _|exact hlow _ _|exact low_map (fun _=>Low.val _) _)|exact RenQL.lowE (by assumption) (low_map (fun _=>Low.val _) _)|((repeat (refine RenQL.cons (by exact rq0) ?_));exact RenQL.nil))):p:=h
theorem lt0 {p:Prop} (h:p:=by (repeat (first|exact lowT_bot|refine lowT_put ?_ (by first|exact .ptr _ _ rfl|exact .mref _ rfl|exact Low.lowI (by exact lw))|refine lowT_setb ?_|refine lowT_setm ?_))):p:=h
theorem ow0 {p:Prop} (h:p:=by (repeat (first|exact ownsS_bot|refine OwnsS.put ?_ rfl|refine OwnsS.setb ?_ (by first|exact ownsX_nil|exact ownsX_cons (ownsX_no rfl) ownsX_nil|exact ownsX_cons (ownsX_no rfl) (ownsX_cons (ownsX_no rfl) ownsX_nil)|assumption)))):p:=h
theorem kn0 {p:Prop} (h:p:=by (repeat (first|exact kn_bot|refine kn_put ?_|refine kn_setb ?_|refine kn_setm ?_))):p:=h
theorem sbF {p:Prop} (h:p:=by (refine Sub.same ?_;exact sbrF)):p:=h
theorem sbrF {p:Prop} (h:p:=by (repeat (first|exact SubR.bot|((with_reducible refine SubR.isp ?_);refine SubR.put ?_ (by exact rq0))|((with_reducible refine SubR.isb ?_);refine SubR.setb ?_ rfl rfl (by first|exact rq_fn1 rfl|exact rl0))))):p:=h
theorem hok0 {p:Prop} (h:p:=by (refine ⟨by exact li0,by exact li0,by first|exact lm_nil|exact lm_cons (dM_low _) lm_nil,?_,by exact li0,by first|exact lm_nil|exact lm_cons (dM_low _) lm_nil,by first|simp|simp [jG,dG],by first|simp|simp [dMs]⟩;exact li0)):p:=h
theorem ren0 {p:Prop} (h:p:=by (repeat (first|exact RenL.nil|exact RenB.nil|exact RenMs.nil|exact RenMs.cons _ _ _ _ _ (RenM.low (dM_low _)) RenMs.nil|refine RenB.cons _ _ _ _ _ ?_ ?_|exact RenL.low (dC_low _)|refine RenL.cons ?_ ?_|exact Ren.ptr _ _ (by first|simp [ResIds]|simp [ResIds,dG,dMs,jG]|simp [ResIds,dG,dMs,crG,crM]|simp [ResIds,dG,dMs])|exact Ren.mref _ (by first|simp [ResIds]|simp [ResIds,dG,dMs,jG]|simp [ResIds,dG,dMs,crG,crM]|simp [ResIds,dG,dMs])|exact Ren.msl _ _ _ _ (by first|simp [ResIds]|simp [ResIds,dG,dMs,jG]|simp [ResIds,dG,dMs,crG,crM]|simp [ResIds,dG,dMs])|exact Ren.low _ (Low.val _)|exact Ren.low _ (low_pputs _)|exact Ren.low _ (psec_low _)|exact RenL.low (by assumption)|refine ren_agg ?_|refine ren_fn ?_|refine ren_sl ?_))):p:=h
theorem sbr0 {p:Prop} (h:p:=by (repeat (first|exact SubR.bot|((with_reducible refine SubR.isp ?_);refine SubR.put ?_ (by exact rq0))|((with_reducible refine SubR.isb ?_);refine SubR.setb ?_ rfl rfl (by exact rl0))|((with_reducible refine SubR.ism ?_);refine SubR.setm ?_ rfl rfl (by (first|exact ⟨rfl,rfl,rfl,rfl,rfl⟩|exact RenM.low (by first|assumption|exact hlowm _|exact hlowm _ _))))))):p:=h
structure Hold (q:Prop):Prop where
 out:q
theorem wk {p q:Prop} (k:q) (h:Hold q→p:=by intro hHold;(repeat (first|(with_reducible first|refine PW.seq ?_|refine PW.block ?_|refine PW.skip ?_|refine PW.exit ?_|refine PW.ret ?_|refine thenP ?_|refine thenP_exit ?_|refine thenP_ret ?_|refine blockP ?_|refine blockP_exit ?_|refine blockP_ret ?_|refine loopP_exit ?_|refine loopP_ret ?_|refine loopU_exit ?_|refine loopU_ret ?_)|((with_reducible refine PWops.idd ?_);first|(first|refine PWops.cvI rfl rfl rfl rfl (by (first|omega|(dsimp only;omega))) (by (first|omega|(dsimp only;omega))) rfl ?_|refine PWops.stepA rfl ?_|refine PWops.doneI rfl ?_|refine PWops.boolK true rfl rfl rfl rfl (by (first|rfl|assumption|(simp only [decide_eq_true_eq,decide_eq_false_iff_not,bne_iff_ne,beq_iff_eq,beq_eq_false_iff_ne,bne_eq_false_iff_eq,ne_eq];omega))) rfl ?_|refine PWops.boolK false rfl rfl rfl rfl (by (first|rfl|assumption|(simp only [decide_eq_true_eq,decide_eq_false_iff_not,bne_iff_ne,beq_iff_eq,beq_eq_false_iff_ne,bne_eq_false_iff_eq,ne_eq];omega))) rfl ?_|refine PWops.fitsK rfl rfl rfl rfl (by (first|omega|(dsimp only;omega))) (by (first|omega|(dsimp only;omega))) rfl ?_|refine PWops.remK rfl rfl rfl rfl (by (first|omega|(dsimp only;omega))) rfl ?_|refine PWops.quoK rfl rfl rfl rfl (by (first|omega|(dsimp only;omega))) rfl ?_|refine PWops.app rfl rfl rfl rfl rfl rfl rfl rfl (by (first|omega|(dsimp only;omega))) (by (first|omega|(dsimp only;omega))) (by first|rfl|exact secL_one _|exact putL_one _|exact one_pint _|exact one_pstr _|exact one_pbyte _|exact one_pattrs _) ?_|refine PWops.app0 rfl rfl rfl rfl rfl rfl rfl rfl (by (first|omega|(dsimp only;omega))) (by (first|omega|(dsimp only;omega))) (by first|rfl|exact secL_one _|exact putL_one _|exact one_pint _|exact one_pstr _|exact one_pbyte _|exact one_pattrs _) ?_|refine PWops.idx1 rfl rfl rfl rfl rfl rfl rfl rfl (by (first|omega|(dsimp only;omega))) ?_|refine PWops.idx rfl rfl rfl rfl rfl rfl rfl rfl (by (first|omega|(dsimp only;omega))) ?_|refine PWops.ld rfl rfl rfl rfl rfl rfl rfl (by assumption) rfl ?_|refine PWops.ldA rfl rfl rfl rfl rfl rfl (by (first|omega|(dsimp only;omega))) (by assumption) ?_|refine PWops.str rfl rfl rfl rfl rfl rfl rfl rfl rfl rfl rfl ?_)|(first|refine PWops.arU rfl rfl rfl rfl rfl rfl ?_|refine PWops.boxA rfl rfl rfl rfl rfl (by (first|rfl|exact secL_one _|exact dcellL_one _|exact putL_one _|exact one_map (fun _=>rfl) _)) (by (first|rfl|exact secL_bare _|exact dcellL_bare _|exact putL_bare _|exact bare_map (fun _=>rfl) _)) ?_|refine PWops.litA rfl rfl rfl rfl rfl rfl rfl (by (first|rfl|exact secL_len _|exact dcellL_len _|exact putL_len _|exact len_map (by assumption)|exact len_map rfl)) rfl rfl rfl (by (first|rfl|exact secL_one _|exact dcellL_one _|exact putL_one _|exact one_map (fun _=>rfl) _)) (by (first|rfl|exact secL_bare _|exact dcellL_bare _|exact putL_bare _|exact bare_map (fun _=>rfl) _)) ?_|refine PWops.shlK rfl rfl rfl rfl rfl rfl (by (first|omega|(dsimp only;omega)|decide)) ?_|refine PWops.shrK rfl rfl rfl rfl rfl rfl (by (first|omega|(dsimp only;omega)|decide)) ?_|refine PWops.ldBC rfl rfl rfl rfl rfl rfl rfl rfl (by (first|exact secL_len|exact dcellL_len|exact putL_len|(intro;rfl))) (by (first|omega|(dsimp only;omega))) (by (first|rfl|exact dcellL_64 _)) rfl ?_|refine PWops.ldRB rfl rfl rfl rfl rfl rfl (by (first|exact secL_len|exact dcellL_len|exact putL_len|(intro;rfl))) (by (first|omega|(dsimp only;omega))) (by (first|exact secL_bare|exact dcellL_bare|exact putL_bare|(intro;rfl))) ?_|refine PWops.ldSec rfl rfl rfl rfl rfl rfl rfl (by first|with_reducible rfl|with_reducible exact dC_flat _) (by rfl) (by (first|omega|(dsimp only;omega))) ?_|refine PWops.ldBR rfl rfl rfl rfl rfl rfl rfl (by (first|exact secL_len|exact dcellL_len|exact putL_len|(intro;rfl))) (by (first|omega|(dsimp only;omega))) (by (first|exact secL_bare _|exact dcellL_bare _|exact putL_bare _|rfl)) ?_|refine PWops.lkp rfl rfl rfl rfl rfl rfl rfl rfl rfl rfl rfl (by assumption) ?_|refine PWops.ldAll rfl rfl rfl rfl rfl rfl rfl (by (first|rfl|exact secL_len _|exact dcellL_len _|exact putL_len _|exact len_map (by assumption)|exact len_map rfl)) (by (first|rfl|exact secL_bare _|exact dcellL_bare _|exact putL_bare _|exact bare_map (fun _=>rfl) _)) ?_|refine PWops.stAll rfl rfl rfl rfl rfl rfl rfl rfl rfl (by (first|rfl|exact secL_len _|exact dcellL_len _|exact putL_len _|exact len_map (by assumption)|exact len_map rfl)) (by (first|rfl|exact secL_len _|exact dcellL_len _|exact putL_len _|exact len_map (by assumption)|exact len_map rfl)) (by (first|rfl|exact secL_one _|exact dcellL_one _|exact putL_one _|exact one_map (fun _=>rfl) _)) (by (first|rfl|exact secL_bare _|exact dcellL_bare _|exact putL_bare _|exact bare_map (fun _=>rfl) _)) ?_|refine PWops.idxM rfl rfl rfl rfl rfl rfl rfl rfl (by (first|omega|(dsimp only;omega))) ?_|refine PWops.idxP1 rfl rfl rfl rfl rfl rfl rfl rfl (by (first|omega|(dsimp only;omega))) ?_|refine PWops.idxP rfl rfl rfl rfl rfl rfl rfl rfl (by (first|omega|(dsimp only;omega))) ?_|(refine PWops.call rfl rfl rfl (by assumption) ?_)|(refine PWops.callR rfl rfl (by assumption) (by (first|exact trivial|exact ⟨⟨rfl,rfl⟩,trivial⟩|exact ⟨⟨rfl,rfl⟩,⟨rfl,rfl⟩,trivial⟩|exact ⟨⟨rfl,rfl⟩,⟨rfl,rfl⟩,⟨rfl,rfl⟩,trivial⟩|exact ⟨⟨rfl,rfl⟩,⟨rfl,rfl⟩,⟨rfl,rfl⟩,⟨rfl,rfl⟩,trivial⟩|exact ⟨⟨rfl,rfl⟩,⟨rfl,rfl⟩,⟨rfl,rfl⟩,⟨rfl,rfl⟩,⟨rfl,rfl⟩,trivial⟩|exact ⟨⟨rfl,rfl⟩,⟨rfl,rfl⟩,⟨rfl,rfl⟩,⟨rfl,rfl⟩,⟨rfl,rfl⟩,⟨rfl,rfl⟩,trivial⟩|exact ⟨⟨rfl,rfl⟩,⟨rfl,rfl⟩,⟨rfl,rfl⟩,⟨rfl,rfl⟩,⟨rfl,rfl⟩,⟨rfl,rfl⟩,⟨rfl,rfl⟩,trivial⟩|exact ⟨⟨rfl,rfl⟩,⟨rfl,rfl⟩,⟨rfl,rfl⟩,⟨rfl,rfl⟩,⟨rfl,rfl⟩,⟨rfl,rfl⟩,⟨rfl,rfl⟩,⟨rfl,rfl⟩,trivial⟩)) (by (first|exact trivial|exact ⟨⟨rfl,rfl⟩,trivial⟩|exact ⟨⟨rfl,rfl⟩,⟨rfl,rfl⟩,trivial⟩|exact ⟨⟨rfl,rfl⟩,⟨rfl,rfl⟩,⟨rfl,rfl⟩,trivial⟩|exact ⟨⟨rfl,rfl⟩,⟨rfl,rfl⟩,⟨rfl,rfl⟩,⟨rfl,rfl⟩,trivial⟩|exact ⟨⟨rfl,rfl⟩,⟨rfl,rfl⟩,⟨rfl,rfl⟩,⟨rfl,rfl⟩,⟨rfl,rfl⟩,trivial⟩|exact ⟨⟨rfl,rfl⟩,⟨rfl,rfl⟩,⟨rfl,rfl⟩,⟨rfl,rfl⟩,⟨rfl,rfl⟩,⟨rfl,rfl⟩,trivial⟩|exact ⟨⟨rfl,rfl⟩,⟨rfl,rfl⟩,⟨rfl,rfl⟩,⟨rfl,rfl⟩,⟨rfl,rfl⟩,⟨rfl,rfl⟩,⟨rfl,rfl⟩,trivial⟩|exact ⟨⟨rfl,rfl⟩,⟨rfl,rfl⟩,⟨rfl,rfl⟩,⟨rfl,rfl⟩,⟨rfl,rfl⟩,⟨rfl,rfl⟩,⟨rfl,rfl⟩,⟨rfl,rfl⟩,trivial⟩)) rfl (by first|exact .inl rfl|exact .inr (fun _ _=>rfl)) ?_)|(refine PWops.callH rfl rfl (by assumption) (by (first|exact trivial|exact ⟨⟨rfl,rfl⟩,trivial⟩|exact ⟨⟨rfl,rfl⟩,⟨rfl,rfl⟩,trivial⟩|exact ⟨⟨rfl,rfl⟩,⟨rfl,rfl⟩,⟨rfl,rfl⟩,trivial⟩|exact ⟨⟨rfl,rfl⟩,⟨rfl,rfl⟩,⟨rfl,rfl⟩,⟨rfl,rfl⟩,trivial⟩|exact ⟨⟨rfl,rfl⟩,⟨rfl,rfl⟩,⟨rfl,rfl⟩,⟨rfl,rfl⟩,⟨rfl,rfl⟩,trivial⟩|exact ⟨⟨rfl,rfl⟩,⟨rfl,rfl⟩,⟨rfl,rfl⟩,⟨rfl,rfl⟩,⟨rfl,rfl⟩,⟨rfl,rfl⟩,trivial⟩|exact ⟨⟨rfl,rfl⟩,⟨rfl,rfl⟩,⟨rfl,rfl⟩,⟨rfl,rfl⟩,⟨rfl,rfl⟩,⟨rfl,rfl⟩,⟨rfl,rfl⟩,trivial⟩|exact ⟨⟨rfl,rfl⟩,⟨rfl,rfl⟩,⟨rfl,rfl⟩,⟨rfl,rfl⟩,⟨rfl,rfl⟩,⟨rfl,rfl⟩,⟨rfl,rfl⟩,⟨rfl,rfl⟩,trivial⟩)) (by (first|exact trivial|exact ⟨⟨rfl,rfl⟩,trivial⟩|exact ⟨⟨rfl,rfl⟩,⟨rfl,rfl⟩,trivial⟩|exact ⟨⟨rfl,rfl⟩,⟨rfl,rfl⟩,⟨rfl,rfl⟩,trivial⟩|exact ⟨⟨rfl,rfl⟩,⟨rfl,rfl⟩,⟨rfl,rfl⟩,⟨rfl,rfl⟩,trivial⟩|exact ⟨⟨rfl,rfl⟩,⟨rfl,rfl⟩,⟨rfl,rfl⟩,⟨rfl,rfl⟩,⟨rfl,rfl⟩,trivial⟩|exact ⟨⟨rfl,rfl⟩,⟨rfl,rfl⟩,⟨rfl,rfl⟩,⟨rfl,rfl⟩,⟨rfl,rfl⟩,⟨rfl,rfl⟩,trivial⟩|exact ⟨⟨rfl,rfl⟩,⟨rfl,rfl⟩,⟨rfl,rfl⟩,⟨rfl,rfl⟩,⟨rfl,rfl⟩,⟨rfl,rfl⟩,⟨rfl,rfl⟩,trivial⟩|exact ⟨⟨rfl,rfl⟩,⟨rfl,rfl⟩,⟨rfl,rfl⟩,⟨rfl,rfl⟩,⟨rfl,rfl⟩,⟨rfl,rfl⟩,⟨rfl,rfl⟩,⟨rfl,rfl⟩,trivial⟩)) rfl (by first|exact .inl rfl|exact .inr (fun _ _=>rfl)) ?_)|refine PWops.idxZ1 rfl rfl rfl rfl rfl rfl rfl rfl (by (first|omega|(dsimp only;omega))) ?_|refine PWops.idxZ rfl rfl rfl rfl rfl rfl rfl rfl (by (first|omega|(dsimp only;omega))) ?_|refine PWops.ld rfl rfl rfl rfl rfl rfl rfl rfl rfl ?_|refine PWops.slcL rfl rfl rfl rfl rfl rfl rfl rfl (by (first|omega|(dsimp only;omega))) ?_|refine PWops.slcH rfl rfl rfl rfl rfl rfl rfl rfl (by (first|omega|(dsimp only;omega))) ?_|refine PWops.slcRL rfl rfl rfl rfl rfl rfl rfl rfl (by intro;rfl) (by (first|omega|(dsimp only;omega))) ?_|refine PWops.slcRH rfl rfl rfl rfl rfl rfl rfl rfl (by intro;rfl) (by (first|omega|(dsimp only;omega))) ?_|refine PWops.slcM rfl rfl rfl rfl rfl rfl rfl rfl rfl (by (first|omega|(dsimp only;omega))) ?_|refine PWops.ldM rfl rfl rfl rfl rfl rfl rfl (by (first|omega|(dsimp only;omega))) rfl ?_|refine PWops.ldR rfl rfl rfl rfl rfl rfl rfl (by (first|exact secL_len|exact dcellL_len|exact putL_len|(intro;rfl))) (by (first|omega|(dsimp only;omega))) rfl rfl ?_|refine PWops.ldRA rfl rfl rfl rfl rfl rfl (by intro;rfl) (by (first|omega|(dsimp only;omega))) rfl ?_|refine PWops.slcP rfl rfl rfl rfl rfl rfl rfl rfl rfl (by decide) ?_|refine PWops.idxE1 rfl rfl rfl rfl rfl rfl rfl rfl (by (first|omega|(dsimp only;omega))) ?_|refine PWops.ldG rfl rfl rfl rfl rfl rfl (by (first|rfl|exact secL_len _|exact dcellL_len _|exact putL_len _|exact len_map (by assumption)|exact len_map rfl)) (by (first|rfl|exact secL_bare _|exact dcellL_bare _|exact putL_bare _|exact bare_map (fun _=>rfl) _)) ?_|refine PWops.ldMB rfl rfl rfl rfl rfl rfl rfl rfl (by (first|omega|(dsimp only;omega))) rfl rfl ?_|refine PWops.stMB rfl rfl rfl rfl rfl rfl rfl rfl rfl rfl (by (first|omega|(dsimp only;omega))) ?_|refine PWops.idxV rfl rfl rfl rfl rfl rfl rfl rfl (by (first|omega|(dsimp only;omega))) rfl ?_))|(first|((with_reducible refine PW.idd ?_);(first|refine PW.region typeTab_ok (by kernel_rfl) ?_|refine PW.draw typeTab_ok (by kernel_rfl) (by kernel_rfl) (by kernel_rfl) ?_|refine PW.condT rfl ?_|refine PW.condF rfl ?_|refine PW.condTe rfl (by assumption) ?_|refine PW.condFe rfl (by assumption) ?_|refine blockP_other (by decide) ?_))|with_reducible refine blockP_other (by decide) ?_)));exact hHold.out):p:=h ⟨k⟩
theorem wg {p q:Prop} (k:q) (h:Hold q→p:=by intro hHold;(repeat ((with_reducible refine PWops.idd ?_);first|(first|refine PWops.cvI rfl rfl rfl rfl (by (first|omega|(dsimp only;omega))) (by (first|omega|(dsimp only;omega))) rfl ?_|refine PWops.stepA rfl ?_|refine PWops.doneI rfl ?_|refine PWops.boolK true rfl rfl rfl rfl (by (first|rfl|assumption|(simp only [decide_eq_true_eq,decide_eq_false_iff_not,bne_iff_ne,beq_iff_eq,beq_eq_false_iff_ne,bne_eq_false_iff_eq,ne_eq];omega))) rfl ?_|refine PWops.boolK false rfl rfl rfl rfl (by (first|rfl|assumption|(simp only [decide_eq_true_eq,decide_eq_false_iff_not,bne_iff_ne,beq_iff_eq,beq_eq_false_iff_ne,bne_eq_false_iff_eq,ne_eq];omega))) rfl ?_|refine PWops.fitsK rfl rfl rfl rfl (by (first|omega|(dsimp only;omega))) (by (first|omega|(dsimp only;omega))) rfl ?_|refine PWops.remK rfl rfl rfl rfl (by (first|omega|(dsimp only;omega))) rfl ?_|refine PWops.quoK rfl rfl rfl rfl (by (first|omega|(dsimp only;omega))) rfl ?_|refine PWops.app rfl rfl rfl rfl rfl rfl rfl rfl (by (first|omega|(dsimp only;omega))) (by (first|omega|(dsimp only;omega))) (by first|rfl|exact secL_one _|exact putL_one _|exact one_pint _|exact one_pstr _|exact one_pbyte _|exact one_pattrs _) ?_|refine PWops.app0 rfl rfl rfl rfl rfl rfl rfl rfl (by (first|omega|(dsimp only;omega))) (by (first|omega|(dsimp only;omega))) (by first|rfl|exact secL_one _|exact putL_one _|exact one_pint _|exact one_pstr _|exact one_pbyte _|exact one_pattrs _) ?_|refine PWops.idx1 rfl rfl rfl rfl rfl rfl rfl rfl (by (first|omega|(dsimp only;omega))) ?_|refine PWops.idx rfl rfl rfl rfl rfl rfl rfl rfl (by (first|omega|(dsimp only;omega))) ?_|refine PWops.ld rfl rfl rfl rfl rfl rfl rfl (by assumption) rfl ?_|refine PWops.ldA rfl rfl rfl rfl rfl rfl (by (first|omega|(dsimp only;omega))) (by assumption) ?_|refine PWops.str rfl rfl rfl rfl rfl rfl rfl rfl rfl rfl rfl ?_)|(first|refine PWops.arU rfl rfl rfl rfl rfl rfl ?_|refine PWops.boxA rfl rfl rfl rfl rfl (by (first|rfl|exact secL_one _|exact dcellL_one _|exact putL_one _|exact one_map (fun _=>rfl) _)) (by (first|rfl|exact secL_bare _|exact dcellL_bare _|exact putL_bare _|exact bare_map (fun _=>rfl) _)) ?_|refine PWops.litA rfl rfl rfl rfl rfl rfl rfl (by (first|rfl|exact secL_len _|exact dcellL_len _|exact putL_len _|exact len_map (by assumption)|exact len_map rfl)) rfl rfl rfl (by (first|rfl|exact secL_one _|exact dcellL_one _|exact putL_one _|exact one_map (fun _=>rfl) _)) (by (first|rfl|exact secL_bare _|exact dcellL_bare _|exact putL_bare _|exact bare_map (fun _=>rfl) _)) ?_|refine PWops.shlK rfl rfl rfl rfl rfl rfl (by (first|omega|(dsimp only;omega)|decide)) ?_|refine PWops.shrK rfl rfl rfl rfl rfl rfl (by (first|omega|(dsimp only;omega)|decide)) ?_|refine PWops.ldBC rfl rfl rfl rfl rfl rfl rfl rfl (by (first|exact secL_len|exact dcellL_len|exact putL_len|(intro;rfl))) (by (first|omega|(dsimp only;omega))) (by (first|rfl|exact dcellL_64 _)) rfl ?_|refine PWops.ldRB rfl rfl rfl rfl rfl rfl (by (first|exact secL_len|exact dcellL_len|exact putL_len|(intro;rfl))) (by (first|omega|(dsimp only;omega))) (by (first|exact secL_bare|exact dcellL_bare|exact putL_bare|(intro;rfl))) ?_|refine PWops.ldSec rfl rfl rfl rfl rfl rfl rfl (by first|with_reducible rfl|with_reducible exact dC_flat _) (by rfl) (by (first|omega|(dsimp only;omega))) ?_|refine PWops.ldBR rfl rfl rfl rfl rfl rfl rfl (by (first|exact secL_len|exact dcellL_len|exact putL_len|(intro;rfl))) (by (first|omega|(dsimp only;omega))) (by (first|exact secL_bare _|exact dcellL_bare _|exact putL_bare _|rfl)) ?_|refine PWops.lkp rfl rfl rfl rfl rfl rfl rfl rfl rfl rfl rfl (by assumption) ?_|refine PWops.ldAll rfl rfl rfl rfl rfl rfl rfl (by (first|rfl|exact secL_len _|exact dcellL_len _|exact putL_len _|exact len_map (by assumption)|exact len_map rfl)) (by (first|rfl|exact secL_bare _|exact dcellL_bare _|exact putL_bare _|exact bare_map (fun _=>rfl) _)) ?_|refine PWops.stAll rfl rfl rfl rfl rfl rfl rfl rfl rfl (by (first|rfl|exact secL_len _|exact dcellL_len _|exact putL_len _|exact len_map (by assumption)|exact len_map rfl)) (by (first|rfl|exact secL_len _|exact dcellL_len _|exact putL_len _|exact len_map (by assumption)|exact len_map rfl)) (by (first|rfl|exact secL_one _|exact dcellL_one _|exact putL_one _|exact one_map (fun _=>rfl) _)) (by (first|rfl|exact secL_bare _|exact dcellL_bare _|exact putL_bare _|exact bare_map (fun _=>rfl) _)) ?_|refine PWops.idxM rfl rfl rfl rfl rfl rfl rfl rfl (by (first|omega|(dsimp only;omega))) ?_|refine PWops.idxP1 rfl rfl rfl rfl rfl rfl rfl rfl (by (first|omega|(dsimp only;omega))) ?_|refine PWops.idxP rfl rfl rfl rfl rfl rfl rfl rfl (by (first|omega|(dsimp only;omega))) ?_|(refine PWops.call rfl rfl rfl (by assumption) ?_)|(refine PWops.callR rfl rfl (by assumption) (by (first|exact trivial|exact ⟨⟨rfl,rfl⟩,trivial⟩|exact ⟨⟨rfl,rfl⟩,⟨rfl,rfl⟩,trivial⟩|exact ⟨⟨rfl,rfl⟩,⟨rfl,rfl⟩,⟨rfl,rfl⟩,trivial⟩|exact ⟨⟨rfl,rfl⟩,⟨rfl,rfl⟩,⟨rfl,rfl⟩,⟨rfl,rfl⟩,trivial⟩|exact ⟨⟨rfl,rfl⟩,⟨rfl,rfl⟩,⟨rfl,rfl⟩,⟨rfl,rfl⟩,⟨rfl,rfl⟩,trivial⟩|exact ⟨⟨rfl,rfl⟩,⟨rfl,rfl⟩,⟨rfl,rfl⟩,⟨rfl,rfl⟩,⟨rfl,rfl⟩,⟨rfl,rfl⟩,trivial⟩|exact ⟨⟨rfl,rfl⟩,⟨rfl,rfl⟩,⟨rfl,rfl⟩,⟨rfl,rfl⟩,⟨rfl,rfl⟩,⟨rfl,rfl⟩,⟨rfl,rfl⟩,trivial⟩|exact ⟨⟨rfl,rfl⟩,⟨rfl,rfl⟩,⟨rfl,rfl⟩,⟨rfl,rfl⟩,⟨rfl,rfl⟩,⟨rfl,rfl⟩,⟨rfl,rfl⟩,⟨rfl,rfl⟩,trivial⟩)) (by (first|exact trivial|exact ⟨⟨rfl,rfl⟩,trivial⟩|exact ⟨⟨rfl,rfl⟩,⟨rfl,rfl⟩,trivial⟩|exact ⟨⟨rfl,rfl⟩,⟨rfl,rfl⟩,⟨rfl,rfl⟩,trivial⟩|exact ⟨⟨rfl,rfl⟩,⟨rfl,rfl⟩,⟨rfl,rfl⟩,⟨rfl,rfl⟩,trivial⟩|exact ⟨⟨rfl,rfl⟩,⟨rfl,rfl⟩,⟨rfl,rfl⟩,⟨rfl,rfl⟩,⟨rfl,rfl⟩,trivial⟩|exact ⟨⟨rfl,rfl⟩,⟨rfl,rfl⟩,⟨rfl,rfl⟩,⟨rfl,rfl⟩,⟨rfl,rfl⟩,⟨rfl,rfl⟩,trivial⟩|exact ⟨⟨rfl,rfl⟩,⟨rfl,rfl⟩,⟨rfl,rfl⟩,⟨rfl,rfl⟩,⟨rfl,rfl⟩,⟨rfl,rfl⟩,⟨rfl,rfl⟩,trivial⟩|exact ⟨⟨rfl,rfl⟩,⟨rfl,rfl⟩,⟨rfl,rfl⟩,⟨rfl,rfl⟩,⟨rfl,rfl⟩,⟨rfl,rfl⟩,⟨rfl,rfl⟩,⟨rfl,rfl⟩,trivial⟩)) rfl (by first|exact .inl rfl|exact .inr (fun _ _=>rfl)) ?_)|(refine PWops.callH rfl rfl (by assumption) (by (first|exact trivial|exact ⟨⟨rfl,rfl⟩,trivial⟩|exact ⟨⟨rfl,rfl⟩,⟨rfl,rfl⟩,trivial⟩|exact ⟨⟨rfl,rfl⟩,⟨rfl,rfl⟩,⟨rfl,rfl⟩,trivial⟩|exact ⟨⟨rfl,rfl⟩,⟨rfl,rfl⟩,⟨rfl,rfl⟩,⟨rfl,rfl⟩,trivial⟩|exact ⟨⟨rfl,rfl⟩,⟨rfl,rfl⟩,⟨rfl,rfl⟩,⟨rfl,rfl⟩,⟨rfl,rfl⟩,trivial⟩|exact ⟨⟨rfl,rfl⟩,⟨rfl,rfl⟩,⟨rfl,rfl⟩,⟨rfl,rfl⟩,⟨rfl,rfl⟩,⟨rfl,rfl⟩,trivial⟩|exact ⟨⟨rfl,rfl⟩,⟨rfl,rfl⟩,⟨rfl,rfl⟩,⟨rfl,rfl⟩,⟨rfl,rfl⟩,⟨rfl,rfl⟩,⟨rfl,rfl⟩,trivial⟩|exact ⟨⟨rfl,rfl⟩,⟨rfl,rfl⟩,⟨rfl,rfl⟩,⟨rfl,rfl⟩,⟨rfl,rfl⟩,⟨rfl,rfl⟩,⟨rfl,rfl⟩,⟨rfl,rfl⟩,trivial⟩)) (by (first|exact trivial|exact ⟨⟨rfl,rfl⟩,trivial⟩|exact ⟨⟨rfl,rfl⟩,⟨rfl,rfl⟩,trivial⟩|exact ⟨⟨rfl,rfl⟩,⟨rfl,rfl⟩,⟨rfl,rfl⟩,trivial⟩|exact ⟨⟨rfl,rfl⟩,⟨rfl,rfl⟩,⟨rfl,rfl⟩,⟨rfl,rfl⟩,trivial⟩|exact ⟨⟨rfl,rfl⟩,⟨rfl,rfl⟩,⟨rfl,rfl⟩,⟨rfl,rfl⟩,⟨rfl,rfl⟩,trivial⟩|exact ⟨⟨rfl,rfl⟩,⟨rfl,rfl⟩,⟨rfl,rfl⟩,⟨rfl,rfl⟩,⟨rfl,rfl⟩,⟨rfl,rfl⟩,trivial⟩|exact ⟨⟨rfl,rfl⟩,⟨rfl,rfl⟩,⟨rfl,rfl⟩,⟨rfl,rfl⟩,⟨rfl,rfl⟩,⟨rfl,rfl⟩,⟨rfl,rfl⟩,trivial⟩|exact ⟨⟨rfl,rfl⟩,⟨rfl,rfl⟩,⟨rfl,rfl⟩,⟨rfl,rfl⟩,⟨rfl,rfl⟩,⟨rfl,rfl⟩,⟨rfl,rfl⟩,⟨rfl,rfl⟩,trivial⟩)) rfl (by first|exact .inl rfl|exact .inr (fun _ _=>rfl)) ?_)|refine PWops.idxZ1 rfl rfl rfl rfl rfl rfl rfl rfl (by (first|omega|(dsimp only;omega))) ?_|refine PWops.idxZ rfl rfl rfl rfl rfl rfl rfl rfl (by (first|omega|(dsimp only;omega))) ?_|refine PWops.ld rfl rfl rfl rfl rfl rfl rfl rfl rfl ?_|refine PWops.slcL rfl rfl rfl rfl rfl rfl rfl rfl (by (first|omega|(dsimp only;omega))) ?_|refine PWops.slcH rfl rfl rfl rfl rfl rfl rfl rfl (by (first|omega|(dsimp only;omega))) ?_|refine PWops.slcRL rfl rfl rfl rfl rfl rfl rfl rfl (by intro;rfl) (by (first|omega|(dsimp only;omega))) ?_|refine PWops.slcRH rfl rfl rfl rfl rfl rfl rfl rfl (by intro;rfl) (by (first|omega|(dsimp only;omega))) ?_|refine PWops.slcM rfl rfl rfl rfl rfl rfl rfl rfl rfl (by (first|omega|(dsimp only;omega))) ?_|refine PWops.ldM rfl rfl rfl rfl rfl rfl rfl (by (first|omega|(dsimp only;omega))) rfl ?_|refine PWops.ldR rfl rfl rfl rfl rfl rfl rfl (by (first|exact secL_len|exact dcellL_len|exact putL_len|(intro;rfl))) (by (first|omega|(dsimp only;omega))) rfl rfl ?_|refine PWops.ldRA rfl rfl rfl rfl rfl rfl (by intro;rfl) (by (first|omega|(dsimp only;omega))) rfl ?_|refine PWops.slcP rfl rfl rfl rfl rfl rfl rfl rfl rfl (by decide) ?_|refine PWops.idxE1 rfl rfl rfl rfl rfl rfl rfl rfl (by (first|omega|(dsimp only;omega))) ?_|refine PWops.ldG rfl rfl rfl rfl rfl rfl (by (first|rfl|exact secL_len _|exact dcellL_len _|exact putL_len _|exact len_map (by assumption)|exact len_map rfl)) (by (first|rfl|exact secL_bare _|exact dcellL_bare _|exact putL_bare _|exact bare_map (fun _=>rfl) _)) ?_|refine PWops.ldMB rfl rfl rfl rfl rfl rfl rfl rfl (by (first|omega|(dsimp only;omega))) rfl rfl ?_|refine PWops.stMB rfl rfl rfl rfl rfl rfl rfl rfl rfl rfl (by (first|omega|(dsimp only;omega))) ?_|refine PWops.idxV rfl rfl rfl rfl rfl rfl rfl rfl (by (first|omega|(dsimp only;omega))) rfl ?_)));(repeat (first|(with_reducible first|refine PW.seq ?_|refine PW.block ?_|refine PW.skip ?_|refine PW.exit ?_|refine PW.ret ?_|refine thenP ?_|refine thenP_exit ?_|refine thenP_ret ?_|refine blockP ?_|refine blockP_exit ?_|refine blockP_ret ?_|refine loopP_exit ?_|refine loopP_ret ?_|refine loopU_exit ?_|refine loopU_ret ?_)|(first|((with_reducible refine PW.idd ?_);(first|refine PW.condT rfl ?_|refine PW.condF rfl ?_|refine PW.condTe rfl (by assumption) ?_|refine PW.condFe rfl (by assumption) ?_|refine blockP_other (by decide) ?_))|with_reducible refine blockP_other (by decide) ?_)));exact hHold.out):p:=h ⟨k⟩
theorem sb {p:Prop} (h:p:=by (refine Sub.same ?_;(repeat (first|exact SubR.bot|((with_reducible refine SubR.isp ?_);refine SubR.put ?_ (by exact rq0))|((with_reducible refine SubR.isb ?_);refine SubR.setb ?_ rfl rfl (by exact rl0))|((with_reducible refine SubR.ism ?_);refine SubR.setm ?_ rfl rfl (by (first|exact ⟨rfl,rfl,rfl,rfl,rfl⟩|exact RenM.low (by first|assumption|exact hlowm _|exact hlowm _ _)))))))):p:=h
theorem lw {p:Prop} (h:p:=by (first|exact low_mapI|exact low_mapS|exact low_mapB|assumption|exact hlow _|exact hlow _ _|exact Low.agg _ (low_map (fun _=>Low.val _) _)|(simp [low_pu32,low_pu64,low_val,low_nilsl,low_sl,low_ep,low_agg,low_tup,low_fn,low_pint,low_pstr,low_pbool,low_pints,low_pstrs,low_pbyte,low_pbytes,hlow];done)|(simp [low_pu32,low_pu64,low_val,low_nilsl,low_sl,low_ep,low_agg,low_tup,low_fn,low_pint,low_pstr,low_pbool,low_pints,low_pstrs,low_pbyte,low_pbytes];done)|simp [low_pu32,low_pu64,low_val,low_nilsl,low_sl,low_ep,low_agg,low_tup,low_fn,low_pint,low_pstr,low_pbool,low_pints,low_pstrs,low_pbyte,low_pbytes,low_pattrs,low_pdefs,low_pschema,low_pentry])):p:=h
end Go.Proofs.YtoamkpgaaanafaaGreat

/- Walks over pure states. -/
namespace Go.Proofs.YtoamkpgaaanafaaGreat
set_option linter.unusedSimpArgs false
set_option linter.unusedVariables false
set_option linter.unnecessarySimpa false
open Go.RowKit
theorem ren_eqlow {κ:Nat→Nat} {S:Nat→Prop} {q p:PV} (h:q=p) (hl:Low q):Ren κ S q p:=by subst h;exact .low _ hl
end Go.Proofs.YtoamkpgaaanafaaGreat

/- Walks: Fits of attr. -/
namespace Go.Proofs.YtoamkpgaaanafaaGreat
set_option linter.unusedSimpArgs false
set_option linter.unusedVariables false
set_option linter.unnecessarySimpa false
open Go.RowKit
theorem fits1 (g:Nat) (d:PDef) (wv:Value) (a:PAttr) (w:World) (c5:w.cell? ⟨g,0,none⟩=some (.string a.name)) :
  Calls Tryz.prog 176 #[defV d wv, .pointer (some ⟨g,0,none⟩)] w (RetB w (eqB d.name a.name)):=by
 have hlt:=World.block_lt_of_cell? _ _ c5
 unfold defV
 go_enter Tryz.func176,Tryz.ntmps176
 go_wp2
 go_ret
 exact RetB.mk rfl (below_alloc _ _)
theorem fits2 (g h:Nat) (a:PAttr) (bf:ByteArray) (w:World) (ha:AttrAt w g 0 a) (c5:w.cell? ⟨h,0,none⟩=some (.string bf)) :
  Calls Tryz.prog 177 #[.pointer (some ⟨g,0,none⟩), .pointer (some ⟨h,0,none⟩)] w (RetB w (leqB a.name bf)):=by
 obtain ⟨c0,c1,c2,c3⟩:=ha
 go_enter Tryz.func177,Tryz.ntmps177
 go_wp2
 go_ret
 exact RetB.mk rfl (Below.refl _ _)
theorem fits3 (g h:Nat) (a:PAttr) (d:PDef) (wv:Value) (w:World) (ha:AttrAt w g 0 a) (hd:DefAt w h 0 d wv) :
  Calls Tryz.prog 178 #[.pointer (some ⟨g,0,none⟩), .pointer (some ⟨h,0,none⟩)] w (RetB w (a.kind != d.kind)):=by
 obtain ⟨c0,c1,c2,c3⟩:=ha
 obtain ⟨d0,d1,d2,d3,d4⟩:=hd
 go_enter Tryz.func178,Tryz.ntmps178
 go_wp2
 go_ret
 exact RetB.mk rfl (Below.refl _ _)
def formA (a:PAttr):Bool:=if a.kind == 1 then !a.s.toList.isEmpty else a.n != 0
def rangeA (d:PDef) (a:PAttr):Bool:=(a.kind == 1) && (decide (a.n < d.lo) || decide (d.hi < a.n))
def wordA (d:PDef) (a:PAttr):Bool := !(a.kind == 1) && !hasB d.words a.s
theorem fits4 (g h:Nat) (a:PAttr) (w:World) (ha:AttrAt w g 0 a) (c5:w.cell? ⟨h,0,none⟩=some (.bool (a.kind == 1))) :
  Calls Tryz.prog 179 #[.pointer (some ⟨h,0,none⟩), .pointer (some ⟨g,0,none⟩)] w (RetB w (formA a)):=by
 obtain ⟨c0,c1,c2,c3⟩:=ha
 unfold formA
 cases e:(a.kind == 1)
 ·rw [e] at c5
  go_enter Tryz.func179,Tryz.ntmps179
  go_wp2
  go_ret
  exact RetB.mk (by simp) (Below.refl _ _)
 ·rw [e] at c5
  cases e2:a.s.toList.isEmpty
  all_goals
   go_enter Tryz.func179,Tryz.ntmps179
   go_wp2
   go_ret
   exact RetB.mk (by simp_all) (Below.refl _ _)
theorem fits5 (g h k:Nat) (a:PAttr) (d:PDef) (wv:Value) (w:World) (ha:AttrAt w g 0 a) (hd:DefAt w k 0 d wv) (c5:w.cell? ⟨h,0,none⟩=some (.bool (a.kind == 1))) :
  Calls Tryz.prog 180 #[.pointer (some ⟨h,0,none⟩), .pointer (some ⟨g,0,none⟩), .pointer (some ⟨k,0,none⟩)] w (RetB w (rangeA d a)):=by
 obtain ⟨c0,c1,c2,c3⟩:=ha
 obtain ⟨d0,d1,d2,d3,d4⟩:=hd
 unfold rangeA
 cases e:(a.kind == 1)
 ·rw [e] at c5
  go_enter Tryz.func180,Tryz.ntmps180
  go_wp2
  go_ret
  exact RetB.mk (by simp) (Below.refl _ _)
 ·rw [e] at c5
  cases e2:decide (a.n < d.lo)
  all_goals
   go_enter Tryz.func180,Tryz.ntmps180
   go_wp2
   go_ret
   exact RetB.mk (by simp) (Below.refl _ _)
theorem fits6 (g h k:Nat) (a:PAttr) (d:PDef) (wv:Value) (w:World) (ha:AttrAt w g 0 a) (hd:DefAt w k 0 d wv) (hs:Strs w wv d.words) (hl:d.words.length≤1000) (c5:w.cell? ⟨h,0,none⟩=some (.bool (a.kind == 1))) :
  Calls Tryz.prog 181 #[.pointer (some ⟨h,0,none⟩), .pointer (some ⟨k,0,none⟩), .pointer (some ⟨g,0,none⟩)] w (RetB w (wordA d a)):=by
 have HS:=Lib.hid hs
 obtain ⟨c0,c1,c2,c3⟩:=ha
 obtain ⟨d0,d1,d2,d3,d4⟩:=hd
 clear hs
 unfold wordA
 cases e:(a.kind == 1)
 ·rw [e] at c5
  go_enter Tryz.func181,Tryz.ntmps181
  go_wp2_with fail
  refine (slicesContainsS _ d.words a.s _ HS.out (by omega)).mono ?_
  rintro e w' ⟨rfl,rfl⟩
  go_wp2
  go_ret
  exact RetB.mk (by simp) (Below.refl _ _)
 ·rw [e] at c5
  go_enter Tryz.func181,Tryz.ntmps181
  go_wp2
  go_ret
  exact RetB.mk (by simp) (Below.refl _ _)
theorem cF1:CallOk 176:=fun _ _=>by kernel_rfl
theorem cF2:CallOk 177:=fun _ _=>by kernel_rfl
theorem cF3:CallOk 178:=fun _ _=>by kernel_rfl
theorem cF4:CallOk 179:=fun _ _=>by kernel_rfl
theorem cF5:CallOk 180:=fun _ _=>by kernel_rfl
theorem cF6:CallOk 181:=fun _ _=>by kernel_rfl
structure EnvF (a:PAttr) (d:PDef) (wv:Value) (bf:ByteArray) (g h k q:Nat) (w:World):Prop where
 at_:AttrAt w g 0 a
 bf:w.cell? ⟨h,0,none⟩=some (.string bf)
 df:DefAt w k 0 d wv
 ws:Strs w wv d.words
 nm:w.cell? ⟨q,0,none⟩=some (.bool (a.kind == 1))
theorem EnvF.below {a:PAttr} {d:PDef} {wv:Value} {bf:ByteArray} {g h k q:Nat} {w w' : World} (e:EnvF a d wv bf g h k q w) (hb:Below w.heap.size w w'):EnvF a d wv bf g h k q w':=
 ⟨e.at_.below hb,below_cell hb e.bf,e.df.below hb,e.ws.below hb,below_cell hb e.nm⟩
def rulesF (a:PAttr) (d:PDef) (bf:ByteArray) (g h k q:Nat):List Rule := [⟨177,#[.pointer (some ⟨g,0,none⟩), .pointer (some ⟨h,0,none⟩)],leqB a.name bf,6⟩,
 ⟨178,#[.pointer (some ⟨g,0,none⟩), .pointer (some ⟨k,0,none⟩)],a.kind != d.kind,130⟩,
 ⟨179,#[.pointer (some ⟨q,0,none⟩), .pointer (some ⟨g,0,none⟩)],formA a,3⟩,
 ⟨180,#[.pointer (some ⟨q,0,none⟩), .pointer (some ⟨g,0,none⟩), .pointer (some ⟨k,0,none⟩)],rangeA d a,131⟩,
 ⟨181,#[.pointer (some ⟨q,0,none⟩), .pointer (some ⟨k,0,none⟩), .pointer (some ⟨g,0,none⟩)],wordA d a,131⟩]
def fitR (d:PDef) (bf:ByteArray) (a:PAttr):List (Bool×Int) := [(leqB a.name bf,6),(a.kind != d.kind,130),(formA a,3),(rangeA d a,131),(wordA d a,131)]
theorem runF {a:PAttr} {d:PDef} {wv:Value} {bf:ByteArray} {g h k q:Nat} {w:World} (e:EnvF a d wv bf g h k q w) (hl:d.words.length≤1000) (v:Value) (hv:Rules w v (rulesF a d bf g h k q)) :
  Calls Tryz.prog 87 #[v] w (RetI w (firstE (fitR d bf a))):=by
 refine attrFirst v (rulesF a d bf g h k q) w hv (Nat.le_of_ble_eq_true rfl) ?_ ?_
 ·intro r hr
  simp only [rulesF,List.mem_cons,List.not_mem_nil,or_false] at hr
  rcases hr with rfl|rfl|rfl|rfl|rfl
  ·exact cF2
  ·exact cF3
  ·exact cF4
  ·exact cF5
  ·exact cF6
 ·intro r hr w' hb
  have e':=e.below hb
  simp only [rulesF,List.mem_cons,List.not_mem_nil,or_false] at hr
  rcases hr with rfl|rfl|rfl|rfl|rfl
  ·exact fits2 g h a bf w' e'.at_ e'.bf
  ·exact fits3 g k a d wv w' e'.at_ e'.df
  ·exact fits4 g q a w' e'.at_ e'.nm
  ·exact fits5 g q k a d wv w' e'.at_ e'.df e'.nm
  ·exact fits6 g q k a d wv w' e'.at_ e'.df e'.ws hl e'.nm
theorem fitR_eq (d:PDef) (bf:ByteArray) (a:PAttr):firstE (fitR d bf a)=if leqB a.name bf then 6 else valueE d a:=by
 have he:=eqB_empty a.s
 unfold fitR firstE
 cases leqB a.name bf
 ·simp only [Bool.false_eq_true,if_false]
  unfold firstE valueE
  by_cases h1:a.kind=d.kind
  ·by_cases h2:a.kind=1
   ·have e2:(a.kind == 1)=true:=by simp [h2]
    rw [if_neg (show ¬(a.kind != d.kind)=true by simp [h1]),if_neg (show ¬a.kind≠d.kind from fun h=>h h1),if_pos h2]
    simp only [firstE,formA,rangeA,wordA,e2,if_true,Bool.true_and,Bool.not_true,Bool.false_and,Bool.false_eq_true,if_false,he]
    cases a.s.toList.isEmpty
    ·simp
    ·simp
   ·have e2:(a.kind == 1)=false:=by simp [h2]
    rw [if_neg (show ¬(a.kind != d.kind)=true by simp [h1]),if_neg (show ¬a.kind≠d.kind from fun h=>h h1),if_neg h2]
    simp only [firstE,formA,rangeA,wordA,e2,Bool.false_eq_true,if_false,Bool.false_and,Bool.not_false,Bool.true_and]
    by_cases h3:a.n=0
    ·simp [h3];cases hasB d.words a.s<;>simp
    ·simp [h3]
  ·rw [if_pos (show (a.kind != d.kind)=true by simp [h1]),if_pos h1]
 ·rfl
theorem fitsGo_drop (ds:List PDef) (l:List PAttr) (k:Nat) (b:ByteArray) (a:PAttr) (h:l[k]? = some a):fitsGo ds b false (l.drop k)=if fitE ds b false a≠0 then fitE ds b false a else fitsGo ds a.name false (l.drop (k+1)):=by
 obtain ⟨hk,rfl⟩:=List.getElem?_eq_some_iff.1 h
 rw [List.drop_eq_getElem_cons (by omega),fitsGo]
theorem fitsGo_end (ds:List PDef) (l:List PAttr) (k:Nat) (b:ByteArray) (f:Bool) (h:l.length≤k):fitsGo ds b f (l.drop k)=0:=by
 rw [List.drop_eq_nil_of_le h,fitsGo]
theorem fitE_none (ds:List PDef) (b:ByteArray) (f:Bool) (a:PAttr) (h:findI ds a.name < 0):fitE ds b f a=5:=by rw [fitE,if_pos h]
theorem fitE_some (ds:List PDef) (b:ByteArray) (a:PAttr) (k:Nat) (d:PDef) (h:findI ds a.name=k) (hd:ds[k]? = some d):fitE ds b false a=firstE (fitR d b a):=by
 rw [fitE,if_neg (by omega),fitR_eq,h,Int.toNat_natCast,hd];rfl
end Go.Proofs.YtoamkpgaaanafaaGreat
