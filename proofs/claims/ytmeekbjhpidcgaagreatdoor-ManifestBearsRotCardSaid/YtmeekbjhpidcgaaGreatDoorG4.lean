/- Out of: PwB, PwC, PwD, PwE, Region, Elem, PlainZ, PlainS. -/
import Derived.Orders
import Derived.Test.YtmeekbjhpidcgaaGreatDoorG1
namespace Go.Proofs.YtmeekbjhpidcgaaGreatDoor
set_option linter.unusedSimpArgs false
set_option linter.unusedVariables false
set_option linter.unnecessarySimpa false
section
open Go.RowKit
def RepL (Φ:Imm) (μ:Nat→Option Nat) (cs:List PV) (vs:List Value):Prop:=vs.length=cs.length∧∀(j:Nat) c u,cs[j]? = some c→vs[j]? = some u→Rep Φ μ c u
theorem RepL.nil {Φ:Imm} {μ:Nat→Option Nat} : RepL Φ μ [] []:=⟨rfl,fun j c u h=>by simp at h⟩
theorem RepL.cons {Φ:Imm} {μ:Nat→Option Nat} {c:PV} {u:Value} {cs:List PV} {us:List Value} (h:Rep Φ μ c u) (hs:RepL Φ μ cs us):RepL Φ μ (c :: cs) (u :: us):=by
 refine ⟨by simp [hs.1],fun j c' u' h1 h2=>?_⟩
 cases j with
 |zero=>simp at h1 h2;subst h1 h2;exact h
 |succ j=>simp at h1 h2;exact hs.2 j c' u' h1 h2
theorem RepL.mono {Φ Φ' : Imm} {μ μ' : Nat→Option Nat} (hΦ:∀b o u,Φ b o=some u→Φ' b o=some u) (hμ:∀i g,μ i=some g→μ' i=some g) {cs:List PV} {us:List Value} (h:RepL Φ μ cs us):RepL Φ' μ' cs us:=
 ⟨h.1,fun j c u h1 h2=>(h.2 j c u h1 h2).mono hΦ hμ⟩
theorem RepL.get {Φ:Imm} {μ:Nat→Option Nat} {cs:List PV} {us:List Value} (h:RepL Φ μ cs us) {j:Nat} {c:PV} (hc:cs[j]? = some c):∃u,us[j]? = some u∧Rep Φ μ c u:=by
 have hj:j < us.length:=by rw [h.1];exact (List.getElem?_eq_some_iff.1 hc).1
 exact ⟨us[j],by simp [hj],h.2 j c _ hc (by simp [hj])⟩
theorem range_map_get {n:Nat} (us:List Value) (hu:us.length=n):((List.range n).map (fun j=>us.getD j undef))=us:=by
 apply List.ext_getElem
 ·simp [hu]
 ·intro i h1 h2
  simp [List.getD_eq_getElem?_getD,h2]
theorem RepL.us {Φ:Imm} {μ:Nat→Option Nat} {cs:List PV} {us:List Value} (h:RepL Φ μ cs us):∀j c,cs[j]? = some c→Rep Φ μ c (us.getD j undef):=by
 intro j c hc
 obtain ⟨u,hu,hr⟩:=h.get hc
 rw [List.getD_eq_getElem?_getD,hu];exact hr
theorem RepL.agg {Φ:Imm} {μ:Nat→Option Nat} {cs:List PV} {us:List Value} (h:RepL Φ μ cs us):Rep Φ μ (.agg cs) (.agg us.toArray):=by
 have:=Rep.agg (Φ:=Φ) (μ:=μ) cs (fun j=>us.getD j undef) h.us
 rwa [range_map_get us h.1] at this
theorem RepL.tup {Φ:Imm} {μ:Nat→Option Nat} {cs:List PV} {us:List Value} (h:RepL Φ μ cs us):Rep Φ μ (.tup cs) (.tuple us.toArray):=by
 have:=Rep.tup (Φ:=Φ) (μ:=μ) cs (fun j=>us.getD j undef) h.us
 rwa [range_map_get us h.1] at this
theorem RepL.fn {Φ:Imm} {μ:Nat→Option Nat} {cs:List PV} {us:List Value} (f:FuncId) (h:RepL Φ μ cs us):Rep Φ μ (.fn f cs) (fnV f us.toArray):=by
 have:=Rep.fn (Φ:=Φ) (μ:=μ) f cs (fun j=>us.getD j undef) h.us
 rwa [range_map_get us h.1] at this
theorem repL_of_us {Φ:Imm} {μ:Nat→Option Nat} (cs:List PV) (us:Nat→Value) (hr:∀j c,cs[j]? = some c→Rep Φ μ c (us j)):RepL Φ μ cs ((List.range cs.length).map us):=by
 refine ⟨by simp,fun j c u h1 h2=>?_⟩
 have hj:j < cs.length:=(List.getElem?_eq_some_iff.1 h1).1
 simp [hj] at h2
 subst h2;exact hr j c h1
theorem Rep.agg_inv {Φ:Imm} {μ:Nat→Option Nat} {cs:List PV} {v:Value} (h:Rep Φ μ (.agg cs) v):∃us,v = .agg us.toArray∧RepL Φ μ cs us:=by
 cases h with|agg _ us hr=>exact ⟨_,rfl,repL_of_us cs us hr⟩
theorem Rep.tup_inv {Φ:Imm} {μ:Nat→Option Nat} {cs:List PV} {v:Value} (h:Rep Φ μ (.tup cs) v):∃us,v = .tuple us.toArray∧RepL Φ μ cs us:=by
 cases h with|tup _ us hr=>exact ⟨_,rfl,repL_of_us cs us hr⟩
theorem Rep.fn_inv {Φ:Imm} {μ:Nat→Option Nat} {f:FuncId} {cs:List PV} {v:Value} (h:Rep Φ μ (.fn f cs) v):∃us,v=fnV f us.toArray∧RepL Φ μ cs us:=by
 cases h with|fn _ _ us hr=>exact ⟨_,rfl,repL_of_us cs us hr⟩
theorem Rep.val_inv {Φ:Imm} {μ:Nat→Option Nat} {u v:Value} (h:Rep Φ μ (.val u) v):v=u∧plainV u=true:=by
 cases h with|val _ h=>exact ⟨rfl,h⟩
theorem Rep.ptr_inv {Φ:Imm} {μ:Nat→Option Nat} {id off:Nat} {v:Value} (h:Rep Φ μ (.ptr id off) v):∃g,μ id=some g∧v = .pointer (some ⟨g,off,none⟩):=by
 cases h with|ptr _ _ g h=>exact ⟨g,h,rfl⟩
theorem Rep.mref_inv {Φ:Imm} {μ:Nat→Option Nat} {id:Nat} {v:Value} (h:Rep Φ μ (.mref id) v):∃g,μ id=some g∧v = .map (some g):=by
 cases h with|mref _ g h=>exact ⟨g,h,rfl⟩
theorem Rep.msl_inv {Φ:Imm} {μ:Nat→Option Nat} {id off n k:Nat} {v:Value} (h:Rep Φ μ (.msl id off n k) v):∃a cap,v = .slice a n cap∧n≤cap∧cap≤maxLen∧(0 < n→∃g,μ id=some g∧a=some ⟨g,off,none⟩):=by
 cases h with|msl _ _ _ _ a cap h h2 h3=>exact ⟨a,cap,rfl,h2,h3,h⟩
theorem Rep.ep_inv {Φ:Imm} {μ:Nat→Option Nat} {cs:List PV} {off:Nat} {v:Value} (h:Rep Φ μ (.ep cs off) v):∃b o,∃us:Nat→Value,v = .pointer (some ⟨b,o+off,none⟩)∧(∀j,j < cs.length→Φ b (o+j)=some (us j))∧∀j c,cs[j]? = some c→Rep Φ μ c (us j):=by
 cases h with|ep _ _ b o us hp hr=>exact ⟨b,o,us,rfl,hp,hr⟩
theorem Rep.sl_inv {Φ:Imm} {μ:Nat→Option Nat} {n k:Nat} {cs:List PV} {own:Option TypeId} {v:Value} (h:Rep Φ μ (.sl n k cs own) v):∃a b off cap,∃us:Nat→Value,v = .slice a n cap∧n≤cap∧cap≤maxLen∧cs.length=n * k∧(0 < n→a=some ⟨b,off,none⟩) ∧
  (∀j,j < cs.length→Φ b (off+j)=some (us j))∧∀j c,cs[j]? = some c→Rep Φ μ c (us j):=by
 cases h with
 |sl0 _ _ a cap h=>exact ⟨a,0,0,cap,fun _=>Go.undef,rfl,Nat.zero_le _,h,by simp,fun h=>by omega,fun j hj=>by simp at hj,fun j c hj=>by simp at hj⟩
 |sl _ _ _ _ b off cap us h1 h2 h3 hp hr=>exact ⟨_,b,off,cap,us,rfl,h2,h3,h1,fun _=>rfl,hp,hr⟩
def PV.one:PV→Bool
 | .val _ | .nilsl | .sl .. | .ptr .. | .msl .. | .ep .. | .fn .. | .mref .. => true
 |_=>false
theorem Rep.one {Φ:Imm} {μ:Nat→Option Nat} {p:PV} {v:Value} (h:Rep Φ μ p v) (ho:p.one=true):v.oneCell' = true∧v.cells = #[v]:=by
 cases h with
 |val v h=>exact plainV_one h
 |undef=>simp [PV.one] at ho
 |agg=>simp [PV.one] at ho
 |tup=>simp [PV.one] at ho
 |fn f cs us hr=>
  obtain ⟨t1,p1,q1,e1⟩:=fnV_func f ((List.range cs.length).map us).toArray
  rw [e1];exact ⟨rfl,rfl⟩
 |_=>exact ⟨rfl,rfl⟩
def pv0:Value→PV
 | .slice none 0 0=>.nilsl
 |v=>if plainV v then .val v else .undef
def pvC:Value→PV
 | .agg cs=>.agg (cs.toList.map pv0)
 |v=>pv0 v
theorem rep_pv0 {Φ:Imm} {μ:Nat→Option Nat} (v:Value):Rep Φ μ (pv0 v) v:=by
 unfold pv0
 split
 ·exact .nilsl
 ·split
  ·exact .val _ ‹_›
  ·exact .undef _
theorem repL_pv0 {Φ:Imm} {μ:Nat→Option Nat} (vs:List Value):RepL Φ μ (vs.map pv0) vs:=by
 refine ⟨by simp,fun j c u h1 h2=>?_⟩
 rw [List.getElem?_map,h2] at h1
 simp at h1
 subst h1;exact rep_pv0 u
theorem rep_pvC {Φ:Imm} {μ:Nat→Option Nat} (v:Value):Rep Φ μ (pvC v) v:=by
 unfold pvC
 split
 ·rename_i cs
  exact (repL_pv0 cs.toList).agg
 ·exact rep_pv0 _
theorem pv0_own (v:Value):(pv0 v).ownB=false:=by
 unfold pv0
 split
 ·rfl
 ·split<;>rfl
theorem pvC_own (v:Value):(pvC v).ownB=false:=by
 unfold pvC
 split
 ·rfl
 ·exact pv0_own _
end
section
open Go.RowKit
variable {Φ0:Ent} {W:World} {M:Nat} {Φ:Imm} {μ:Nat→Option Nat} {ω:Nat→Option Who} {σ:PS} {a:Act} {w:World}
theorem RelG.grow (h:RelG Φ0 W M Φ μ ω σ a w) {Φ' : Imm} {w' : World} (hb:Kept (Old Φ0 W) W w') (himm:∀b o u,Φ' b o=some u→w'.cell? ⟨b,o,none⟩=some u) (hold:∀b o,Old Φ0 W b→Φ' b o=Φ b o) (hsub:∀b o u,Φ b o=some u→Φ' b o=some u)
  (hkeep:∀g p,ω g=some p→w'.heap[g]? = w.heap[g]?∧∀j,Φ' g j=Φ g j) (hsz:w.heap.size≤w'.heap.size):RelG Φ0 W M Φ' μ ω σ a w':=by
 have hown:∀p n k E v,OwnAt (Mine Φ0 W) Φ ω w p n k E v→OwnAt (Mine Φ0 W) Φ' ω w' p n k E v:=by
  intro p n k E v ho
  rcases ho with ho|⟨g,cap,cur,h1,h2,h3,h4,h5,h6,h7,h8⟩|ho
  rotate_left 2
  ·exact .inr (.inr ho)
  ·exact .inl ho
  ·obtain ⟨k1,k2⟩:=hkeep g _ h7
   exact .inr (.inl ⟨g,cap,cur,h1,h2,by rw [k1];exact h3,h4,h5,h6,h7,h8.1,fun j hj=>by rw [k2];exact h8.2 j hj⟩)
 refine ⟨hb,h.defers,h.size,himm,fun b o hbo=>(hold b o hbo).trans (h.old b o hbo),fun t=>(h.tmps t).mono hsub (fun _ _ e=>e),fun t n k cs E e=>hown _ _ _ _ _ (h.own t n k cs E e),fun id bs e=>?_,h.gone,fun g p e=>Nat.lt_of_lt_of_le (h.lt g p e) hsz,h.gmu,h.kmu,fun b o u e=>⟨hsub _ _ _ (h.ext b o u e).1,(h.ext b o u e).2⟩,fun id X e=>(h.map id X e).step hsub (fun _ _ e=>e) (fun q _ g e=>⟨(hkeep g q e).1,(hkeep g q e).2,e⟩),h.mine⟩
 obtain ⟨g,cur,T,h1,h2,h3,h4,h5,h6,h7⟩:=h.box id bs e
 obtain ⟨k1,k2⟩:=hkeep g _ h4
 refine ⟨g,cur,T,h1,by rw [k1];exact h2,h3,h4,fun j=>by rw [k2];exact h5 j,h6,fun j c hc=>?_⟩
 obtain ⟨u,r1,r2,r3,r4⟩:=h7 j c hc
 exact ⟨u,r1,r2,r3.mono hsub (fun _ _ e=>e),fun n k cs E e=>hown _ _ _ _ _ (r4 n k cs E e)⟩
theorem RelG.drew (h:RelG Φ0 W M Φ μ ω σ a w):RelG Φ0 W M Φ μ ω σ a w.drew:=
 h.grow h.below.drew h.imm (fun _ _ _=>rfl) (fun _ _ _ e=>e) (fun _ _ _=>⟨rfl,fun _=>rfl⟩) (Nat.le_refl _)
def immRow (Φ:Imm) (g:Nat) (cur:Array Value):Imm:=fun b o=>if b=g then cur[o]? else Φ b o
theorem RelG.fresh (h:RelG Φ0 W M Φ μ ω σ a w) {b o:Nat} {u:Value} (e:Φ b o=some u):b < w.heap.size:=World.block_lt_of_cell? _ _ (h.imm b o u e)
theorem cell_alloc_new (w:World) (cur:Array Value) (T:TypeId) (o:Nat):(w.alloc (.cells cur T)).cell? ⟨w.heap.size,o,none⟩=cur[o]?:=by
 have:=heap_alloc_new w (.cells cur T)
 simp only [World.cell?,this];simp
theorem cell_alloc_old (w:World) (ob:Obj) (b o:Nat) (h:b < w.heap.size):(w.alloc ob).cell? ⟨b,o,none⟩=w.cell? ⟨b,o,none⟩:=by
 simp only [World.cell?];rw [Below.heap_alloc w ob b h]
theorem RelG.row (h:RelG Φ0 W M Φ μ ω σ a w) (cur:Array Value) (T:TypeId):RelG Φ0 W M (immRow Φ w.heap.size cur) μ ω σ a (w.alloc (.cells cur T)):=by
 have hW:=h.below.size
 refine h.grow (h.below.alloc _) ?_ ?_ ?_ ?_ (by simp)
 ·intro b o u e
  unfold immRow at e
  split at e
  ·subst b;rw [cell_alloc_new];exact e
  ·have:=h.imm b o u e
   rw [cell_alloc_old _ _ _ _ (h.fresh e)];exact this
 ·intro b o hb;unfold immRow;rw [if_neg (by have:=hb.1;omega)]
 ·intro b o u e;unfold immRow;rw [if_neg (by have:=h.fresh e;omega)];exact e
 ·intro g p e
  have:=h.lt g p e
  exact ⟨Below.heap_alloc _ _ _ this,fun j=>by unfold immRow;rw [if_neg (by omega)]⟩
theorem RelG.newBox (h:RelG Φ0 W M Φ μ ω σ a w) {id:Nat} (hlow:id < 1000000) (hid:σ.b id=none) (hmid:σ.m id=none) {bs:List PV} {us:List Value} (hr:RepL Φ μ bs us) (hone:∀u∈us,u.oneCell' = true) (hno:∀c∈bs,c.ownB=false) (T:TypeId) :
  RelG Φ0 W M Φ (upd μ id (some w.heap.size)) (upd ω w.heap.size (some (.box id))) { σ with b:=upd σ.b id (some bs) } a (w.alloc (.cells us.toArray T)):=by
 have hW:=h.below.size
 have hμ:∀i g,μ i=some g→upd μ id (some w.heap.size) i=some g:=by
  intro i g e
  simp only [upd_if]
  rw [if_neg (by rintro rfl;rw [h.gone _ hid hmid] at e;cases e)];exact e
 have hω:∀g p,ω g=some p→upd ω w.heap.size (some (.box id)) g=some p:=by
  intro g p e
  simp only [upd_if];rw [if_neg (by have:=h.lt g p e;omega)];exact e
 have hown:∀p n k E v,OwnAt (Mine Φ0 W) Φ ω w p n k E v→OwnAt (Mine Φ0 W) Φ (upd ω w.heap.size (some (.box id))) (w.alloc (.cells us.toArray T)) p n k E v:=by
  intro p n k E v ho
  rcases ho with ho|⟨g,cap,cur,h1,h2,h3,h4,h5,h6,h7,h8⟩|ho
  rotate_left 2
  ·exact .inr (.inr ho)
  ·exact .inl ho
  ·exact .inr (.inl ⟨g,cap,cur,h1,h2,by rw [Below.heap_alloc _ _ _ (h.lt g _ h7)];exact h3,h4,h5,h6,hω _ _ h7,h8⟩)
 refine ⟨h.below.alloc _,h.defers,h.size,?_,h.old,fun t=>(h.tmps t).mono (fun _ _ _ e=>e) hμ,fun t n k cs E e=>hown _ _ _ _ _ (h.own t n k cs E e),?_,?_,?_,h.gmu,fun i g e hi=>?_,h.ext,fun i X e=>(h.map i X e).step (fun _ _ _ e=>e) hμ (fun q _ g e=>⟨Below.heap_alloc _ _ _ (h.lt g _ e),fun _=>rfl,hω _ _ e⟩),fun g p e=>?_⟩
 ·intro b o u e
  rw [cell_alloc_old _ _ _ _ (h.fresh e)];exact h.imm b o u e
 ·intro i bs' e
  by_cases hi:i=id
  ·subst hi
   simp only [upd_if,if_true] at e
   cases e
   refine ⟨w.heap.size,us.toArray,T,by simp [upd_if],heap_alloc_new w _, .inl hW,by simp [upd_if],?_,(by have:=hr.1;simp;omega),?_⟩
   ·intro j
    cases hj:Φ w.heap.size j with
    |none=>rfl
    |some u=>have:=h.fresh hj;omega
   ·intro j c hc
    obtain ⟨u,hu,hru⟩:=hr.get hc
    refine ⟨u,by simpa using hu,hone u (mem_of_get hu),hru.mono (fun _ _ _ e=>e) hμ,fun n k cs E e=>?_⟩
    have:=hno c (mem_of_get hc)
    rw [e] at this;simp [PV.ownB] at this
  ·simp only [upd_if,if_neg hi] at e
   obtain ⟨g,cur,T',h1,h2,h3,h4,h5,h6,h7⟩:=h.box i bs' e
   refine ⟨g,cur,T',hμ _ _ h1,by rw [Below.heap_alloc _ _ _ (h.lt g _ h4)];exact h2,h3,hω _ _ h4,h5,h6,fun j c hc=>?_⟩
   obtain ⟨u,r1,r2,r3,r4⟩:=h7 j c hc
   exact ⟨u,r1,r2,r3.mono (fun _ _ _ e=>e) hμ,fun n k cs E e=>hown _ _ _ _ _ (r4 n k cs E e)⟩
 ·intro i e em
  by_cases hi:i=id
  ·subst hi;simp [upd_if] at e
  ·simp only [upd_if,if_neg hi] at e ⊢; exact h.gone i e em
 ·intro g p e
  simp only [upd_if] at e
  split at e
  ·subst g;simp
  ·have:=h.lt g p e;simp;omega
 ·have hne:i≠id:=by have:=h.gmu i g e;omega
  simp only [upd_if,if_neg hne] at hi ⊢
  exact h.kmu i g e hi
 ·simp only [upd_if] at e
  split at e
  ·subst g;exact .inl hW
  ·exact h.mine g p e
theorem RelG.newMap (h:RelG Φ0 W M Φ μ ω σ a w) {id:Nat} (hlow:id < 1000000) (hid:σ.b id=none) (hmid:σ.m id=none) (X:PMap) (ob:Obj) (hX:match X with
   | .map es clock=>es = []∧ob = .map #[] clock
   | .iter mid since seen last=>∃gm,μ mid=some gm∧ob = .mapIter (some gm) since seen.toArray last) :
  RelG Φ0 W M Φ (upd μ id (some w.heap.size)) (upd ω w.heap.size (some (.box id))) { σ with m:=upd σ.m id (some X) } a (w.alloc ob):=by
 have hW:=h.below.size
 have hμ:∀i g,μ i=some g→upd μ id (some w.heap.size) i=some g:=by
  intro i g e
  simp only [upd_if]
  rw [if_neg (by rintro rfl;rw [h.gone _ hid hmid] at e;cases e)];exact e
 have hω:∀g p,ω g=some p→upd ω w.heap.size (some (.box id)) g=some p:=by
  intro g p e
  simp only [upd_if];rw [if_neg (by have:=h.lt g p e;omega)];exact e
 have hk:∀S,KeptBy S Φ Φ ω (upd ω w.heap.size (some (.box id))) w (w.alloc ob):=fun S q _ g e=>⟨Below.heap_alloc _ _ _ (h.lt g _ e),fun _=>rfl,hω _ _ e⟩
 refine ⟨h.below.alloc _,h.defers,h.size,?_,h.old,fun t=>(h.tmps t).mono (fun _ _ _ e=>e) hμ,fun t n k cs E e=>(h.own t n k cs E e).step (fun g e=>hk (fun _=>True) _ trivial g e),fun i bs e=>(h.box i bs e).step (fun _ _ _ e=>e) hμ (hk _),?_,?_,h.gmu,fun i g e hi=>?_,h.ext,fun i X' e=>?_,fun g p e=>?_⟩
 ·intro b o u e
  rw [cell_alloc_old _ _ _ _ (h.fresh e)];exact h.imm b o u e
 ·intro i e em
  by_cases hi:i=id
  ·subst hi;simp [upd_if] at em
  ·simp only [upd_if,if_neg hi] at em ⊢; exact h.gone i e em
 ·intro g p e
  simp only [upd_if] at e
  split at e
  ·subst g;simp
  ·have:=h.lt g p e;simp;omega
 ·have hne:i≠id:=by have:=h.gmu i g e;omega
  simp only [upd_if,if_neg hne] at hi ⊢
  exact h.kmu i g e hi
 ·by_cases hi:i=id
  ·subst hi
   simp only [upd_if,if_true] at e
   cases e
   refine ⟨w.heap.size,by simp [upd_if], .inl hW,by simp [upd_if],fun j=>?_,?_⟩
   ·cases hj:Φ w.heap.size j with
    |none=>rfl
    |some u=>have:=h.fresh hj;omega
   ·cases X with
    |map es clock=>
     obtain ⟨rfl,rfl⟩:=hX
     exact ⟨⟨by simp,by simp⟩,#[],heap_alloc_new w _,rfl,fun j s k c hj=>by simp at hj⟩
    |iter mid since seen last=>
     obtain ⟨gm,e1,rfl⟩:=hX
     exact ⟨gm,hμ _ _ e1,heap_alloc_new w _⟩
  ·simp only [upd_if,if_neg hi] at e
   exact (h.map i X' e).step (fun _ _ _ e=>e) hμ (hk _)
 ·simp only [upd_if] at e
  split at e
  ·subst g;exact .inl hW
  ·exact h.mine g p e
end
section
open Go.RowKit
inductive TD where
 |int (k:IntKind)|bool|str
 |slice (e:TypeId) (k by_:Nat) (zero:List PV)
 |struct (fs:List (Nat×Nat×Bool))
 |arr (n:Nat) (e:TypeId) (k:Nat) (agg:Bool)
 |parr (n:Nat) (e:TypeId) (k:Nat)
 |ptr|func|map (k e:TypeId)
 |other
inductive SK where
 |int|bool|str
 deriving DecidableEq
structure TyI where
 size:Nat
 agg:Bool
 kind:TD
 zero:List PV
 eqs:List SK
def aggD:TypeDesc→Bool
 | .struct _ | .array _ _=>true
 |_=>false
def tdOf (P:Program):TypeDesc→TD
 | .int k=>.int k
 | .bool=>.bool
 | .string=>.str
 | .slice e=>match P.info? e with
  |some i=>match i.zero with
   |some z=>if z.cells.toList.length=i.size∧0 < i.size∧z.cells.toList.all (·.oneCell') then .slice e i.size i.bytes (z.cells.toList.map pv0) else .other
   |none=>.other
  |none=>.other
 | .struct fs=>match fs.toList.mapM (m:=Option) (fun f=>match P.info? f.type,P.underlying f.type with|some i,some d=>some (f.offset,i.size,aggD d)|_,_=>none) with
  |some l=>.struct l
  |none=>.other
 | .array n e=>match P.info? e,P.underlying e with
  |some i,some d=>.arr n e i.size (aggD d)
  |_,_=>.other
 | .pointer t=>match P.underlying t with
  |some (.array n e)=>match P.info? e with
   |some i=>.parr n e i.size
   |none=>.other
  |some _=>.ptr
  |none=>.other
 | .func _ _ _=>.func
 | .map k e=>.map k e
 |_=>.other
def skOf (P:Program) (t:TypeId):Option SK:=match P.underlying t,P.info? t with
 |some (.int _),some i=>if i.size=1 then some .int else none
 |some .bool,some i=>if i.size=1 then some .bool else none
 |some .string,some i=>if i.size=1 then some .str else none
 |_,_=>none
def eqsD (P:Program):Nat→TypeId→Option (List SK)
 |0,_=>none
 |d+1,t=>match skOf P t with
  |some k=>some [k]
  |none=>match P.underlying t,P.info? t with
   |some (.struct fs),some i=>if P.stoodInHeld t=false then
     match fs.toList.foldr (fun f acc=>match acc with
      |some (off,l)=>if f.name ≠ "_" then match eqsD P d f.type with
       |some m=>if f.offset+m.length=off then some (f.offset,m ++ l) else none
       |none=>none else none
      |none=>none) (some (i.size,[])) with
     |some (0,l)=>if l.length=i.size then some l else none
     |_=>none
    else none
   |some (.array n e),some i=>match eqsD P d e,P.info? e with
    |some l,some ie=>if l.length=ie.size∧i.size=n * ie.size then some ((List.replicate n l).flatten) else none
    |_,_=>none
   |_,_=>none
def eqsOf (P:Program) (t:TypeId):List SK:=match P.underlying t with
 |some (.struct _)=>if P.eqGuardType P.depth t=false then (eqsD P 6 t).getD [] else []
 |some (.array _ _)=>if P.eqGuardType P.depth t=false then (eqsD P 6 t).getD [] else []
 |_ => []
def isAggV:Value→Bool
 | .agg _=>true
 |_=>false
def tyI (P:Program) (t:TypeId):Option TyI:=
 match P.info? t,P.underlying t with
 |some i,some d=>match i.zero with
  |some z=>if z.cells.toList.length=i.size∧z.cells.toList.all (·.oneCell')∧isAggV z=aggD d then some ⟨i.size,aggD d,tdOf P d,z.cells.toList.map pv0,eqsOf P t⟩ else none
  |none=>none
 |_,_=>none
def tabOf (P:Program):List (Option TyI):=(List.range P.types.size).map (tyI P)
theorem tyTab_get {P:Program} {T:List (Option TyI)} (hT:T=tabOf P) {t:TypeId} {x:TyI} (h:T[t]? = some (some x)):tyI P t=some x:=by
 subst hT
 rw [tabOf,List.getElem?_map] at h
 by_cases ht:t < P.types.size
 ·simpa [ht] using h
 ·simp [ht] at h
theorem tyI_parts {P:Program} {t:TypeId} {x:TyI} (h:tyI P t=some x):∃i d z,P.info? t=some i∧P.underlying t=some d∧i.zero=some z∧z.cells.size=i.size∧(∀c∈z.cells.toList,c.oneCell' = true)∧x=⟨i.size,aggD d,tdOf P d,z.cells.toList.map pv0,eqsOf P t⟩:=by
 unfold tyI at h
 split at h
 ·rename_i i d h1 h2
  split at h
  ·rename_i z h3
   split at h
   ·rename_i h4
    exact ⟨i,d,z,h1,h2,h3,by simpa using h4.1,fun c hc=>List.all_eq_true.1 h4.2.1 c hc,by simpa using h.symm⟩
   ·cases h
  ·cases h
 ·cases h
theorem tyI_agg {P:Program} {t:TypeId} {x:TyI} (h:tyI P t=some x):∃i z,P.info? t=some i∧i.zero=some z∧isAggV z=x.agg∧x.zero=z.cells.toList.map pv0:=by
 unfold tyI at h
 split at h
 ·rename_i i d h1 h2
  split at h
  ·rename_i z h3
   split at h
   ·rename_i h4
    cases h
    exact ⟨i,z,h1,h3,h4.2.2,rfl⟩
   ·cases h
  ·cases h
 ·cases h
theorem run_isAgg {P:Program} {t:TypeId} {d:TypeDesc} (h:P.underlying t=some d) (w:World):(isAgg t).run P w = .ok (aggD d) w:=by
 unfold isAgg
 simp only [Sem.run_bind,run_underlying h,Result.andThen_ok]
 cases d<;>simp [aggD]
theorem run_size {P:Program} {t:TypeId} {i:TypeInfo} (h:P.info? t=some i) (w:World):(sizeOf t).run P w = .ok i.size w:=by
 simp [sizeOf,typeInfo,h]
def pev (σ:PS):Operand→PV
 | .tmp t=>(σ.t t).bare
 | .const v=>pvC v
 | .func f=>cond (Nat.blt f 1000000) (.fn f []) .undef
 | .global g=>globPV g globTab
end
section
open Go.RowKit
variable {Φ0:Ent} {W:World} {M:Nat} {Φ:Imm} {μ:Nat→Option Nat} {ω:Nat→Option Who} {σ:PS} {a:Act} {w:World}
theorem RelG.ev (h:RelG Φ0 W M Φ μ ω σ a w) (x:Operand):Rep Φ μ (pev σ x) (a.eval x):=by
 cases x with
 |tmp t=>exact (h.tmps t).bare
 |const v=>exact rep_pvC v
 |func f=>
  simp only [pev]
  cases hb:Nat.blt f 1000000 with
  |false=>exact .undef _
  |true=>
   have h1:=(RepL.nil (Φ:=Φ) (μ:=μ)).fn f
   have hlt:f < 1000000:=by simpa [Nat.blt_eq] using hb
   unfold fnV at h1
   rw [if_pos hlt] at h1
   exact h1
 |global g=>exact globPV_rep globTab fun x hx j z e=>(h.ext _ _ _ (Φ0.glob x hx j z e)).1
theorem pev_own (σ:PS) (x:Operand):(pev σ x).ownB=false:=by
 cases x with
 |tmp t=>exact PV.bare_own _
 |const v=>exact pvC_own v
 |func f=>
  show (cond (Nat.blt f 1000000) (PV.fn f []) .undef).ownB=false
  cases Nat.blt f 1000000<;>rfl
 |global g=>exact globPV_own g _
end
section
open Go.RowKit
def asVal (agg:Bool) (k:Nat) (cs:List PV) (off:Nat):Option PV:=
 if agg then (if off+k≤cs.length then some (.agg (((cs.drop off).take k).map PV.bare)) else none) else (cs[off]?).map PV.bare
def ploadAt (x:TyI) (b:Nat→Option (List PV)):PV→Option PV
 | .ptr id off=>match b id with
  |some bs=>asVal x.agg x.size bs off
  |none=>none
 | .ep cs off=>asVal x.agg x.size cs off
 |_=>none
end
section
open Go.RowKit
variable {Φ0:Ent} {W:World} {M:Nat} {Φ:Imm} {μ:Nat→Option Nat} {ω:Nat→Option Who} {σ:PS} {a:Act} {w:World} {P:Program}
theorem load_cells {cs:List PV} {off b o:Nat} {us:Nat→Value} {t:TypeId} {x:TyI} {p:PV} (ht:tyI P t=some x) (hc:∀j,j < cs.length→w.cell? ⟨b,o+j,none⟩=some (us j)) (hr:∀j c,cs[j]? = some c→Rep Φ μ c (us j)) (hp:asVal x.agg x.size cs off=some p) :
  ∃v,(loadVar t ⟨b,o+off,none⟩).run P w = .ok v w∧Rep Φ μ p v∧p.ownB=false:=by
 obtain ⟨i,d,z,h1,h2,h3,h4,-,rfl⟩:=tyI_parts ht
 simp only [asVal] at hp
 unfold loadVar
 simp only [Sem.run_bind,run_isAgg h2,Result.andThen_ok]
 split at hp
 ·rename_i hagg
  split at hp
  ·rename_i hle
   cases hp
   simp only [hagg,if_true,Sem.run_bind,run_size h1,Result.andThen_ok]
   have hlen:((List.range i.size).map (fun j=>us (off+j))).length=i.size:=by simp
   have:=(run_loadCells_list (P:=P) (w:=w) ⟨b,o+off,none⟩ ((List.range i.size).map (fun j=>us (off+j))) (by
    intro j v hj
    simp only [List.getElem?_map] at hj
    obtain ⟨j',hj',rfl⟩:=Option.map_eq_some_iff.1 hj
    have hlt:j < i.size:=by
     have:=(List.getElem?_eq_some_iff.1 hj').1
     simpa using this
    simp [hlt] at hj'
    subst hj'
    rw [Addr.add_lit,Nat.add_assoc]
    exact hc (off+j) (by omega)))
   rw [hlen] at this
   rw [this]
   refine ⟨_,rfl,?_,rfl⟩
   have:RepL Φ μ (((cs.drop off).take i.size).map PV.bare) ((List.range i.size).map (fun j=>us (off+j))):=by
    refine ⟨by simp;omega,fun j c u hj hu=>?_⟩
    simp only [List.getElem?_map] at hj hu
    obtain ⟨c',hc',rfl⟩:=Option.map_eq_some_iff.1 hj
    obtain ⟨j',hj',rfl⟩:=Option.map_eq_some_iff.1 hu
    have hlt:j < i.size:=by
     have:=(List.getElem?_eq_some_iff.1 hj').1
     simpa using this
    simp [hlt] at hj'
    subst hj'
    rw [List.getElem?_take,if_pos hlt,List.getElem?_drop] at hc'
    exact (hr _ _ hc').bare
   exact this.agg
  ·cases hp
 ·rename_i hagg
  obtain ⟨c,hc',rfl⟩:=Option.map_eq_some_iff.1 hp
  have hagg' : aggD d=false:=by simpa using hagg
  simp only [hagg',Bool.false_eq_true,if_false]
  have hlt:=(List.getElem?_eq_some_iff.1 hc').1
  refine ⟨us off,?_,(hr off c hc').bare,PV.bare_own _⟩
  simp [hc off hlt]
theorem RelG.load (h:RelG Φ0 W M Φ μ ω σ a w) {t:TypeId} {x:TyI} (ht:tyI P t=some x) {q p:PV} {v:Value} (hv:Rep Φ μ q v) (hp:ploadAt x σ.b q=some p):∃u,(Instr.loadAt t v).run P w = .ok u w∧Rep Φ μ p u∧p.ownB=false:=by
 cases q with
 |ptr id off=>
  obtain ⟨g,hg,rfl⟩:=hv.ptr_inv
  simp only [ploadAt] at hp
  split at hp
  ·rename_i bs hbs
   obtain ⟨g',cur,T,k1,k2,k3,k4,k5,k6,k7⟩:=h.box id bs hbs
   rw [hg] at k1;cases k1
   have:=load_cells (P:=P) (w:=w) (Φ:=Φ) (μ:=μ) (cs:=bs) (off:=off) (b:=g) (o:=0) (us:=fun j=>cur.getD j undef) ht (by
    intro j hj
    have:w.cell? ⟨g,0+j,none⟩=cur[j]?:=by simp [World.cell?,k2]
    rw [this,Array.getElem?_eq_getElem (by omega)]
    have hjc:j < cur.size:=by omega
    simp [Array.getD,hjc]) (by
    intro j c hc
    obtain ⟨u,r1,r2,r3,-⟩:=k7 j c hc
    have:cur.getD j undef=u:=by simp [Array.getD_eq_getD_getElem?,r1]
    rw [this];exact r3) hp
   obtain ⟨u,r1,r2,r3⟩:=this
   refine ⟨u,?_,r2,r3⟩
   simpa [Instr.loadAt,Instr.sureAddr] using r1
  ·cases hp
 |ep cs off=>
  obtain ⟨b,o,us,rfl,h1,h2⟩:=hv.ep_inv
  obtain ⟨u,r1,r2,r3⟩:=load_cells (P:=P) (w:=w) (off:=off) ht (fun j hj=>h.imm _ _ _ (h1 j hj)) h2 hp
  refine ⟨u,?_,r2,r3⟩
  simpa [Instr.loadAt,Instr.sureAddr] using r1
 |_=>simp [ploadAt] at hp
end
section
open Go.RowKit
def pbin (op:BinOp):Value→Value→Option Value
 | .int k x, .int k' y=>
  match op with
  | .shl=>if 0≤y then some (.int k (k.wrap (x * 2 ^ (min y.toNat k.bits)))) else none
  | .shr=>if 0≤y then some (.int k (x.fdiv (2 ^ (min y.toNat k.bits)))) else none
  | .add=>if k=k' then some (.int k (k.wrap (x+y))) else none
  | .sub=>if k=k' then some (.int k (k.wrap (x - y))) else none
  | .mul=>if k=k' then some (.int k (k.wrap (x * y))) else none
  | .quo=>if k=k'∧y≠0 then some (.int k (k.wrap (x.tdiv y))) else none
  | .rem=>if k=k'∧y≠0 then some (.int k (x.tmod y)) else none
  | .and=>if k=k' then some (.int k (k.wrap (BitVec.ofInt k.bits x &&& BitVec.ofInt k.bits y).toNat)) else none
  | .or=>if k=k' then some (.int k (k.wrap (BitVec.ofInt k.bits x ||| BitVec.ofInt k.bits y).toNat)) else none
  | .xor=>if k=k' then some (.int k (k.wrap (BitVec.ofInt k.bits x ^^^ BitVec.ofInt k.bits y).toNat)) else none
  | .eql=>if k=k' then some (.bool (x == y)) else none
  | .neq=>if k=k' then some (.bool (x != y)) else none
  | .lss=>if k=k' then some (.bool (decide (x < y))) else none
  | .leq=>if k=k' then some (.bool (decide (x≤y))) else none
  | .gtr=>if k=k' then some (.bool (decide (x > y))) else none
  | .geq=>if k=k' then some (.bool (decide (x≥y))) else none
  |_=>none
 | .string x, .string y=>
  match op with
  | .eql=>some (.bool (x.toList == y.toList))
  | .neq=>some (.bool !(x.toList == y.toList))
  | .lss=>some (.bool (Op.bytesLess x.toList y.toList))
  | .leq=>some (.bool (Op.bytesLess x.toList y.toList || x.toList == y.toList))
  | .gtr=>some (.bool !(Op.bytesLess x.toList y.toList || x.toList == y.toList))
  | .geq=>some (.bool !(Op.bytesLess x.toList y.toList))
  |_=>none
 |_,_=>none
theorem pbin_sound {P : Program} {w : World} {op : BinOp} {t : TypeId} {x y : Operand} {u v r : Value} (h : pbin op u v = some r) : (do eqGuard op t x y u v; binOp op t u v : Sem Value).run P w = .ok r w ∧ plainV r = true := by
  unfold pbin at h
  split at h
  · rename_i k a k' b
    have hg : (eqGuard op t x y (.int k a) (.int k' b)).run P w = .ok () w := by
      unfold eqGuard; split <;> simp
    rw [Sem.run_bind, hg, Result.andThen_ok]
    cases op <;> simp only [] at h <;> first
      | (cases h; done)
      | (split at h
         · rename_i hk
           cases h
           refine ⟨?_, rfl⟩
           first
             | (obtain ⟨rfl, hy⟩ := hk; simp [binOp, Op.intDiv, hy]; done)
             | (subst hk; simp [binOp, Op.intArith, Op.intBits, Op.intCmp]; done)
             | (simp [binOp, Op.shift, Int.not_lt.2 hk]; done)
         · cases h)
  · rename_i a b
    have hg : (eqGuard op t x y (.string a) (.string b)).run P w = .ok () w := by
      unfold eqGuard; split <;> simp
    rw [Sem.run_bind, hg, Result.andThen_ok]
    cases op <;> simp only [] at h <;> first
      | (cases h; done)
      | (cases h; exact ⟨by simp [binOp, Op.stringOp], rfl⟩)
  · cases h
def pbinB (op:BinOp):TD→Value→Value→Option Value
 | .bool, .bool a, .bool b=>match op with
  | .eql=>some (.bool (a == b))
  | .neq=>some (.bool (a != b))
  |_=>none
 |_,_,_=>none
theorem pbinB_sound {P:Program} {w:World} {op:BinOp} {t:TypeId} {x y:Operand} {u v r:Value} {ti:TyI} (ht:tyI P t=some ti) (h:pbinB op ti.kind u v=some r):(do eqGuard op t x y u v;binOp op t u v:Sem Value).run P w = .ok r w∧plainV r=true:=by
 obtain ⟨i,d,z,h1,h2,h3,h4,-,rfl⟩:=tyI_parts ht
 simp only at h
 unfold pbinB at h
 split at h
 ·rename_i a b hd
  have hd' : d = .bool:=by
   cases d with
   |bool=>rfl
   |slice e=>simp only [tdOf] at hd;split at hd<;>(try split at hd)<;>(try split at hd)<;>cases hd
   |struct fs=>simp only [tdOf] at hd;split at hd<;>cases hd
   |array n e=>simp only [tdOf] at hd;split at hd<;>cases hd
   |pointer e=>simp only [tdOf] at hd;split at hd<;>(try split at hd)<;>cases hd
   |_=>cases hd
  subst hd'
  have hg:(eqGuard op t x y (.bool a) (.bool b)).run P w = .ok () w:=by
   unfold eqGuard;split<;>simp
  rw [Sem.run_bind,hg,Result.andThen_ok]
  have he:(Op.equal t (.bool a) (.bool b)).run P w = .ok (a == b) w:=by
   unfold Op.equal
   rw [show Op.maxDepth=9999+1 from rfl,Op.equalIn]
   simp only [Sem.run_bind,run_underlying h2,Result.andThen_ok]
   simp
  cases op<;>simp only [] at h<;>first
   |(cases h;done)
   |(cases h;exact ⟨by simp only [binOp,Sem.run_bind,he,Result.andThen_ok];simp [bne],rfl⟩)
 ·cases h
def pun (op:UnOp):Value→Option Value
 | .bool b=>match op with
  | .not=>some (.bool !b)
  |_=>none
 | .int k n=>match op with
  | .neg=>some (.int k (k.wrap (0 - n)))
  | .xor=>some (.int k (k.wrap (BitVec.ofInt k.bits (if k.signed then -1 else k.max) ^^^ BitVec.ofInt k.bits n).toNat))
  |_=>none
 |_=>none
theorem pun_sound {P:Program} {w:World} {op:UnOp} {u r:Value} (h:pun op u=some r):(Op.unary op u).run P w = .ok r w∧plainV r=true:=by
 unfold pun at h
 split at h
 ·cases op<;>simp only [] at h<;>first|(cases h;done)|(cases h;exact ⟨by simp [Op.unary],rfl⟩)
 ·cases op<;>simp only [] at h<;>first|(cases h;done)|(cases h;refine ⟨?_,rfl⟩;simp [Op.unary,Op.intArith];done)|(cases h;refine ⟨?_,rfl⟩;simp [Op.unary,Op.intBits];done)
 ·cases h
def pfield (l:List (Nat×Nat×Bool)) (f:Nat):PV→Option PV
 | .ptr id o=>match l[f]? with
  |some (off,size,_)=>if size≠0 then some (.ptr id (o+off)) else none
  |none=>none
 | .ep cs o=>match l[f]? with
  |some (off,size,_)=>if size≠0 then some (.ep cs (o+off)) else none
  |none=>none
 |_=>none
theorem mapM_get {α β:Type} (g:α→Option β):∀(l:List α) (r:List β),l.mapM g=some r→∀(j:Nat) b,r[j]? = some b→∃x,l[j]? = some x∧g x=some b
 | [],r,h,j,b,hj=>by simp at h;subst h;simp at hj
 |x :: l,r,h,j,b,hj=>by
  rw [List.mapM_cons] at h
  cases hx:g x with
  |none=>rw [hx] at h;simp at h
  |some y=>
   rw [hx] at h
   cases hl:l.mapM g with
   |none=>rw [hl] at h;simp at h
   |some r' =>
    rw [hl] at h
    simp at h
    subst h
    cases j with
    |zero=>simp at hj;subst hj;exact ⟨x,rfl,hx⟩
    |succ j=>simp at hj;simpa using mapM_get g l r' hl j b hj
theorem mapM_len {α β:Type} (g:α→Option β):∀(l:List α) (r:List β),l.mapM g=some r→r.length=l.length
 | [],r,h=>by simp at h;subst h;rfl
 |x :: l,r,h=>by
  rw [List.mapM_cons] at h
  cases hx:g x with
  |none=>rw [hx] at h;simp at h
  |some y=>
   rw [hx] at h
   cases hl:l.mapM g with
   |none=>rw [hl] at h;simp at h
   |some r' =>
    rw [hl] at h
    simp at h
    subst h
    simp [mapM_len g l r' hl]
theorem struct_get {P:Program} {t:TypeId} {ti:TyI} (ht:tyI P t=some ti) {l:List (Nat×Nat×Bool)} (hk:ti.kind = .struct l):∃fs,P.underlying t=some (.struct fs)∧l.length=fs.size ∧
  ∀(f off size:Nat) (agg:Bool),l[f]? = some (off,size,agg)→∃(fd:Field) (i:TypeInfo) (d:TypeDesc),fs[f]? = some fd∧fd.offset=off∧P.info? fd.type=some i∧i.size=size∧P.underlying fd.type=some d∧aggD d=agg:=by
 obtain ⟨i,d,z,h1,h2,h3,h4,-,rfl⟩:=tyI_parts ht
 simp only at hk
 have:∃fs,d = .struct fs:=by
  cases d with
  |struct fs=>exact ⟨fs,rfl⟩
  |slice e=>simp only [tdOf] at hk;split at hk<;>(try split at hk)<;>(try split at hk)<;>cases hk
  |array n e=>simp only [tdOf] at hk;split at hk<;>cases hk
  |pointer e=>simp only [tdOf] at hk;split at hk<;>(try split at hk)<;>cases hk
  |_=>cases hk
 obtain ⟨fs,rfl⟩:=this
 simp only [tdOf] at hk
 split at hk
 ·rename_i l' hm
  cases hk
  refine ⟨fs,h2,by simpa using mapM_len _ _ _ hm,fun f off size agg hl=>?_⟩
  obtain ⟨fd,hf,hg⟩:=mapM_get _ _ _ hm f _ hl
  split at hg
  ·rename_i i' d' e1 e2
   simp only [Option.some.injEq,Prod.mk.injEq] at hg
   exact ⟨fd,i',d',by simpa using hf,hg.1,e1,hg.2.1,e2,hg.2.2⟩
  ·cases hg
 ·cases hk
theorem slice_get {P:Program} {t:TypeId} {ti:TyI} (ht:tyI P t=some ti) {e k by_:Nat} {zr:List PV} (hk:ti.kind = .slice e k by_ zr):P.underlying t=some (.slice e) ∧
  ∃(i:TypeInfo) (z:Value),P.info? e=some i∧i.zero=some z∧i.size=k∧i.bytes=by_∧z.cells.size=k∧0 < k∧(∀c∈z.cells.toList,c.oneCell' = true)∧zr=z.cells.toList.map pv0:=by
 obtain ⟨i,d,z,h1,h2,h3,h4,-,rfl⟩:=tyI_parts ht
 simp only at hk
 have:∃e,d = .slice e:=by
  cases d with
  |slice e=>exact ⟨e,rfl⟩
  |struct fs=>simp only [tdOf] at hk;split at hk<;>cases hk
  |array n e=>simp only [tdOf] at hk;split at hk<;>cases hk
  |pointer e=>simp only [tdOf] at hk;split at hk<;>(try split at hk)<;>cases hk
  |_=>cases hk
 obtain ⟨e',rfl⟩:=this
 simp only [tdOf] at hk
 split at hk
 ·rename_i i' hi
  split at hk
  ·rename_i z' hz
   split at hk
   ·rename_i hc
    cases hk
    exact ⟨h2,i',z',hi,hz,rfl,rfl,by simpa using hc.1,hc.2.1,fun c hcm=>List.all_eq_true.1 hc.2.2 c hcm,rfl⟩
   ·cases hk
  ·cases hk
 ·cases hk
theorem arr_get {P:Program} {t:TypeId} {ti:TyI} (ht:tyI P t=some ti) {n e k:Nat} {ag:Bool} (hk:ti.kind = .arr n e k ag):P.underlying t=some (.array n e)∧∃(i:TypeInfo) (d:TypeDesc),P.info? e=some i∧i.size=k∧P.underlying e=some d∧aggD d=ag:=by
 obtain ⟨i,d,z,h1,h2,h3,h4,-,rfl⟩:=tyI_parts ht
 simp only at hk
 have:∃n e,d = .array n e:=by
  cases d with
  |array n e=>exact ⟨n,e,rfl⟩
  |struct fs=>simp only [tdOf] at hk;split at hk<;>cases hk
  |slice e=>simp only [tdOf] at hk;split at hk<;>(try split at hk)<;>(try split at hk)<;>cases hk
  |pointer e=>simp only [tdOf] at hk;split at hk<;>(try split at hk)<;>cases hk
  |_=>cases hk
 obtain ⟨n',e',rfl⟩:=this
 simp only [tdOf] at hk
 split at hk
 ·rename_i i' d' hi hd
  cases hk
  exact ⟨h2,i',d',hi,rfl,hd,rfl⟩
 ·cases hk
theorem parr_get {P:Program} {t:TypeId} {ti:TyI} (ht:tyI P t=some ti) {n e k:Nat} (hk:ti.kind = .parr n e k):∃t',P.underlying t=some (.pointer t')∧P.underlying t' = some (.array n e)∧∃(i:TypeInfo),P.info? e=some i∧i.size=k:=by
 obtain ⟨i,d,z,h1,h2,h3,h4,-,rfl⟩:=tyI_parts ht
 simp only at hk
 have:∃t',d = .pointer t':=by
  cases d with
  |pointer e=>exact ⟨e,rfl⟩
  |struct fs=>simp only [tdOf] at hk;split at hk<;>cases hk
  |slice e=>simp only [tdOf] at hk;split at hk<;>(try split at hk)<;>(try split at hk)<;>cases hk
  |array n e=>simp only [tdOf] at hk;split at hk<;>cases hk
  |_=>cases hk
 obtain ⟨t',rfl⟩:=this
 simp only [tdOf] at hk
 split at hk
 ·rename_i n' e' hu
  split at hk
  ·rename_i i' hi
   cases hk
   exact ⟨t',h2,hu,i',hi,rfl⟩
  ·cases hk
 ·cases hk
 ·cases hk
theorem kind_ptr {P:Program} {t:TypeId} {ti:TyI} (ht:tyI P t=some ti) (hk:ti.kind = .ptr):∃e,P.underlying t=some (.pointer e):=by
 obtain ⟨i,d,z,h1,h2,h3,h4,-,rfl⟩:=tyI_parts ht
 simp only at hk
 cases d with
 |pointer e=>exact ⟨e,h2⟩
 |struct fs=>simp only [tdOf] at hk;split at hk<;>cases hk
 |slice e=>simp only [tdOf] at hk;split at hk<;>(try split at hk)<;>(try split at hk)<;>cases hk
 |array n e=>simp only [tdOf] at hk;split at hk<;>cases hk
 |_=>cases hk
theorem kind_func {P:Program} {t:TypeId} {ti:TyI} (ht:tyI P t=some ti) (hk:ti.kind = .func):∃p r v,P.underlying t=some (.func p r v):=by
 obtain ⟨i,d,z,h1,h2,h3,h4,-,rfl⟩:=tyI_parts ht
 simp only at hk
 cases d with
 |func p r v=>exact ⟨p,r,v,h2⟩
 |struct fs=>simp only [tdOf] at hk;split at hk<;>cases hk
 |slice e=>simp only [tdOf] at hk;split at hk<;>(try split at hk)<;>(try split at hk)<;>cases hk
 |array n e=>simp only [tdOf] at hk;split at hk<;>cases hk
 |pointer e=>simp only [tdOf] at hk;split at hk<;>(try split at hk)<;>cases hk
 |_=>cases hk
theorem kind_map {P:Program} {t:TypeId} {ti:TyI} (ht:tyI P t=some ti) {k e:TypeId} (hk:ti.kind = .map k e):P.underlying t=some (.map k e):=by
 obtain ⟨i,d,z,h1,h2,h3,h4,-,rfl⟩:=tyI_parts ht
 simp only at hk
 cases d with
 |map k' e' => cases hk;exact h2
 |struct fs=>simp only [tdOf] at hk;split at hk<;>cases hk
 |slice e=>simp only [tdOf] at hk;split at hk<;>(try split at hk)<;>(try split at hk)<;>cases hk
 |array n e=>simp only [tdOf] at hk;split at hk<;>cases hk
 |pointer e=>simp only [tdOf] at hk;split at hk<;>(try split at hk)<;>cases hk
 |_=>cases hk
theorem kind_int {P:Program} {t:TypeId} {ti:TyI} (ht:tyI P t=some ti) {k:IntKind} (hk:ti.kind = .int k):P.underlying t=some (.int k):=by
 obtain ⟨i,d,z,h1,h2,h3,h4,-,rfl⟩:=tyI_parts ht
 simp only at hk
 cases d with
 |int k' => cases hk;exact h2
 |struct fs=>simp only [tdOf] at hk;split at hk<;>cases hk
 |slice e=>simp only [tdOf] at hk;split at hk<;>(try split at hk)<;>(try split at hk)<;>cases hk
 |array n e=>simp only [tdOf] at hk;split at hk<;>cases hk
 |pointer e=>simp only [tdOf] at hk;split at hk<;>(try split at hk)<;>cases hk
 |_=>cases hk
theorem kind_str {P:Program} {t:TypeId} {ti:TyI} (ht:tyI P t=some ti) (hk:ti.kind = .str):P.underlying t=some .string:=by
 obtain ⟨i,d,z,h1,h2,h3,h4,-,rfl⟩:=tyI_parts ht
 simp only at hk
 cases d with
 |string=>exact h2
 |struct fs=>simp only [tdOf] at hk;split at hk<;>cases hk
 |slice e=>simp only [tdOf] at hk;split at hk<;>(try split at hk)<;>(try split at hk)<;>cases hk
 |array n e=>simp only [tdOf] at hk;split at hk<;>cases hk
 |pointer e=>simp only [tdOf] at hk;split at hk<;>(try split at hk)<;>cases hk
 |_=>cases hk
end
section
open Go.RowKit
variable {Φ:Imm} {μ:Nat→Option Nat} {w:World} {P:Program}
theorem field_sound {s:TypeId} {ti:TyI} (ht:tyI P s=some ti) {l:List (Nat×Nat×Bool)} (hk:ti.kind = .struct l) {q p:PV} {v:Value} {f:Nat} (hv:Rep Φ μ q v) (hp:pfield l f q=some p) :
  ∃u,(Instr.fieldAt s v f).run P w = .ok u w∧Rep Φ μ p u∧p.ownB=false:=by
 obtain ⟨fs,hu,-,hget⟩:=struct_get ht hk
 cases q with
 |ptr id o=>
  simp only [pfield] at hp
  split at hp
  ·rename_i off size agg hl
   split at hp
   ·rename_i hs
    cases hp
    obtain ⟨fd,i,d,e1,e2,e3,e4,-,-⟩:=hget f _ _ _ hl
    obtain ⟨g,hg,rfl⟩:=hv.ptr_inv
    refine ⟨.pointer (some ⟨g,o+off,none⟩),?_, .ptr _ _ g hg,rfl⟩
    have hsz:i.size≠0:=by rw [e4];exact hs
    simp [Instr.fieldAt,run_underlying hu,e1,Instr.sureAddr,fieldPlace,run_size e3,hsz,Addr.add_lit,e2]
   ·cases hp
  ·cases hp
 |ep cs o=>
  simp only [pfield] at hp
  split at hp
  ·rename_i off size agg hl
   split at hp
   ·rename_i hs
    cases hp
    obtain ⟨fd,i,d,e1,e2,e3,e4,-,-⟩:=hget f _ _ _ hl
    obtain ⟨b,o',us,rfl,k1,k2⟩:=hv.ep_inv
    refine ⟨.pointer (some ⟨b,o' + (o+off),none⟩),?_, .ep _ _ b o' us k1 k2,rfl⟩
    have hsz:i.size≠0:=by rw [e4];exact hs
    simp [Instr.fieldAt,run_underlying hu,e1,Instr.sureAddr,fieldPlace,run_size e3,hsz,Addr.add_lit,e2,Nat.add_assoc]
   ·cases hp
  ·cases hp
 |_=>simp [pfield] at hp
def pindexAt (td:TD):PV→PV→Option PV
 | .sl n k cs _, .val (.int _ i)=>match td with
  | .slice _ k' _ _=>if k' = k∧0≤i∧i < n then some (.ep cs (i.toNat * k)) else none
  |_=>none
 | .msl id o n k, .val (.int _ i)=>match td with
  | .slice _ k' _ _=>if k' = k∧0≤i∧i < n then some (.ptr id (o+i.toNat * k)) else none
  |_=>none
 | .ptr id o, .val (.int _ i)=>match td with
  | .arr n _ k _=>if 0≤i∧i < n then some (.ptr id (o+i.toNat * k)) else none
  |_=>none
 | .ep cs o, .val (.int _ i)=>match td with
  | .arr n _ k _=>if 0≤i∧i < n then some (.ep cs (o+i.toNat * k)) else none
  |_=>none
 |_,_=>none
theorem index_sound {t:TypeId} {ti:TyI} (ht:tyI P t=some ti) {q x p:PV} {v u:Value} (hv:Rep Φ μ q v) (hx:Rep Φ μ x u) (hp:pindexAt ti.kind q x=some p) :
  ∃r,(Instr.indexAt t v u).run P w = .ok r w∧Rep Φ μ p r∧p.ownB=false:=by
 unfold pindexAt at hp
 split at hp
 ·rename_i n k cs own ik i
  obtain ⟨rfl,-⟩:=hx.val_inv
  split at hp
  ·rename_i e k' by_ zr hk
   split at hp
   ·rename_i hc
    obtain ⟨rfl,h0,hn⟩:=hc
    cases hp
    obtain ⟨hu,i',z',e1,e2,e3,e4,e5,e6,-,-⟩:=slice_get ht hk
    obtain ⟨a,b,off,cap,us,rfl,c1,c2,c3,c4,c5,c6⟩:=hv.sl_inv
    obtain rfl:=c4 (by omega)
    refine ⟨.pointer (some ⟨b,off+i.toNat * k',none⟩),?_, .ep _ _ b off us c5 c6,rfl⟩
    simp [Instr.indexAt,asIntOf,run_underlying hu,h0,hn,run_size e1,e3,Addr.add_lit]
   ·cases hp
  ·cases hp
 ·rename_i id o n k ik i
  obtain ⟨rfl,-⟩:=hx.val_inv
  split at hp
  ·rename_i e k' by_ zr hk
   split at hp
   ·rename_i hc
    obtain ⟨rfl,h0,hn⟩:=hc
    cases hp
    obtain ⟨hu,i',z',e1,e2,e3,e4,e5,e6,-,-⟩:=slice_get ht hk
    obtain ⟨a,cap,rfl,c1,c2,c4⟩:=hv.msl_inv
    obtain ⟨g,hg,rfl⟩:=c4 (by omega)
    refine ⟨.pointer (some ⟨g,o+i.toNat * k',none⟩),?_, .ptr _ _ g hg,rfl⟩
    simp [Instr.indexAt,asIntOf,run_underlying hu,h0,hn,run_size e1,e3,Addr.add_lit]
   ·cases hp
  ·cases hp
 ·rename_i id o ik i
  obtain ⟨rfl,-⟩:=hx.val_inv
  split at hp
  ·rename_i n e k ag hk
   split at hp
   ·rename_i hc
    cases hp
    obtain ⟨hu,i',d',e1,e2,e3,e4⟩:=arr_get ht hk
    obtain ⟨g,hg,rfl⟩:=hv.ptr_inv
    refine ⟨.pointer (some ⟨g,o+i.toNat * k,none⟩),?_, .ptr _ _ g hg,rfl⟩
    simp [Instr.indexAt,asIntOf,run_underlying hu,hc.1,hc.2,run_size e1,e2,Addr.add_lit,Instr.sureAddr]
   ·cases hp
  ·cases hp
 ·rename_i cs o ik i
  obtain ⟨rfl,-⟩:=hx.val_inv
  split at hp
  ·rename_i n e k ag hk
   split at hp
   ·rename_i hc
    cases hp
    obtain ⟨hu,i',d',e1,e2,e3,e4⟩:=arr_get ht hk
    obtain ⟨b,o',us,rfl,k1,k2⟩:=hv.ep_inv
    refine ⟨.pointer (some ⟨b,o' + (o+i.toNat * k),none⟩),?_, .ep _ _ b o' us k1 k2,rfl⟩
    simp [Instr.indexAt,asIntOf,run_underlying hu,hc.1,hc.2,run_size e1,e2,Addr.add_lit,Instr.sureAddr,Nat.add_assoc]
   ·cases hp
  ·cases hp
 ·cases hp
end
section
open Go.RowKit
def pbound (dflt:Nat) (m:Nat):Option PV→Option Nat
 |none=>some dflt
 |some (.val (.int _ i))=>if 0≤i∧i≤m then some i.toNat else none
 |_=>none
def pslice (td:TD) (x:PV) (lo hi:Option PV):Option PV:=
 match x with
 | .ptr id o=>match td with
  | .arr n _ k _=>match pbound n n hi with
   |some h=>match pbound 0 h lo with
    |some l=>if n≤1000000000 then some (.msl id (o+l * k) (h - l) k) else none
    |none=>none
   |none=>none
  | .parr n _ k=>match pbound n n hi with
   |some h=>match pbound 0 h lo with
    |some l=>if n≤1000000000 then some (.msl id (o+l * k) (h - l) k) else none
    |none=>none
   |none=>none
  |_=>none
 | .msl id o n k=>match td with
  | .slice _ k' _ _=>if k' = k then
    match pbound n n hi with
    |some h=>match pbound 0 h lo with
     |some l=>some (.msl id (o+l * k) (h - l) k)
     |none=>none
    |none=>none
   else none
  |_=>none
 | .sl n k cs _=>match td with
  | .slice _ k' _ _=>if k' = k then
    match pbound n n hi with
    |some h=>match pbound 0 h lo with
     |some l=>some (.sl (h - l) k ((cs.drop (l * k)).take ((h - l) * k)) none)
     |none=>none
    |none=>none
   else none
  |_=>none
 | .val (.string s)=>match td with
  | .str=>match pbound s.size s.size hi with
    |some h=>match pbound 0 h lo with
     |some l=>some (.val (.string (s.extract l h)))
     |none=>none
    |none=>none
  |_=>none
 |_=>none
end
section
open Go.RowKit
variable {Φ:Imm} {μ:Nat→Option Nat} {w:World} {P:Program}
theorem bound_sound {d m l:Nat} {p:PV} {u:Value} (hr:Rep Φ μ p u) (hp:pbound d m (some p)=some l) (m' : Nat) (hm:m≤m') (code:BoundsCode):(Instr.sliceBound u m' code).run P w = .ok l w∧l≤m:=by
 unfold pbound at hp
 split at hp
 ·rename_i e;cases e
 ·rename_i k i e
  cases e
  obtain ⟨rfl,-⟩:=hr.val_inv
  split at hp
  ·rename_i hc
   cases hp
   refine ⟨?_,by omega⟩
   have h1:0≤i∧i≤(m' : Int):=⟨hc.1,by omega⟩
   simp [Instr.sliceBound,asIntOf,h1]
  ·cases hp
 ·cases hp
def RepO (Φ:Imm) (μ:Nat→Option Nat) (x:Option PV) (v:Option Value):Prop:=match x,v with
 |none,none=>True
 |some p,some u=>Rep Φ μ p u
 |_,_=>False
theorem bounds_sound {x y:Option PV} {vx vy:Option Value} (hx:RepO Φ μ x vx) (hy:RepO Φ μ y vy) {n h l cap:Nat} {isS:Bool} (hn:n≤cap) (h1:pbound n n y=some h) (h2:pbound 0 h x=some l) :
  (Instr.sliceBounds isS n cap vx vy none).run P w = .ok (l,h,cap) w∧l≤h∧h≤n:=by
 have a1:∀code,(match vy with|some v=>Instr.sliceBound v cap code|none=>pure n:Sem Nat).run P w = .ok h w∧h≤n:=by
  intro code
  cases y with
  |none=>cases vy with
   |none=>simp [pbound] at h1;subst h1;simp
   |some v=>exact hy.elim
  |some p=>cases vy with
   |none=>exact hy.elim
   |some v=>exact bound_sound hy h1 cap hn code
 have a2:∀code,(match vx with|some v=>Instr.sliceBound v h code|none=>pure 0:Sem Nat).run P w = .ok l w∧l≤h:=by
  intro code
  cases x with
  |none=>cases vx with
   |none=>simp [pbound] at h2;subst h2;simp
   |some v=>exact hx.elim
  |some p=>cases vx with
   |none=>exact hx.elim
   |some v=>exact bound_sound hx h2 h (Nat.le_refl _) code
 refine ⟨?_,(a2 .sliceB).2,(a1 .sliceB).2⟩
 unfold Instr.sliceBounds
 simp only [Sem.run_bind,Sem.run_pure,Result.andThen_ok]
 have b1:=(a1 (if isS=true then .sliceAcap else .sliceAlen)).1
 have b2:=(a2 .sliceB).1
 cases vy with
 |none=>
  simp only [Sem.run_pure] at b1
  cases b1
  cases vx with
  |none=>simp only [Sem.run_pure] at b2;cases b2;simp
  |some v=>simp only [] at b2;simp [b2]
 |some v=>
  simp only [] at b1
  cases vx with
  |none=>simp only [Sem.run_pure] at b2;cases b2;simp [b1]
  |some v=>simp only [] at b2;simp [b1,b2]
theorem slice_sound {t:TypeId} {ti:TyI} (ht:tyI P t=some ti) {q p:PV} {v:Value} {x y:Option PV} {vx vy:Option Value} (hv:Rep Φ μ q v) (hx:RepO Φ μ x vx) (hy:RepO Φ μ y vy) (hp:pslice ti.kind q x y=some p) :
  ∃r,(Instr.sliceAt t v vx vy none).run P w = .ok r w∧Rep Φ μ p r∧p.ownB=false:=by
 unfold pslice at hp
 split at hp
 ·rename_i id o
  split at hp
  ·rename_i n e k ag hk
   split at hp
   ·rename_i h hh
    split at hp
    ·rename_i l hl
     split at hp
     case isFalse=>cases hp
     rename_i hm0
     have hm:n≤maxLen:=by unfold maxLen;omega
     cases hp
     obtain ⟨hu,i',d',e1,e2,e3,e4⟩:=arr_get ht hk
     obtain ⟨g,hg,rfl⟩:=hv.ptr_inv
     obtain ⟨r1,r2,r3⟩:=bounds_sound (P:=P) (w:=w) (isS:=false) hx hy (Nat.le_refl n) hh hl
     refine ⟨.slice (some (if n=l then ⟨g,o,none⟩ else (⟨g,o,none⟩:Addr).add (l * k))) (h - l) (n - l),?_, .msl _ _ _ _ _ _ (fun hpos=>⟨g,hg,?_⟩) (by omega) (by omega),rfl⟩
     ·simp only [Instr.sliceAt,Sem.run_bind,run_underlying hu,Result.andThen_ok,Instr.sureAddr,r1,run_size e1,e2,Sem.run_pure]
     ·rw [if_neg (by omega),Addr.add_lit]
    ·cases hp
   ·cases hp
  ·rename_i n e k hk
   split at hp
   ·rename_i h hh
    split at hp
    ·rename_i l hl
     split at hp
     case isFalse=>cases hp
     rename_i hm0
     have hm:n≤maxLen:=by unfold maxLen;omega
     cases hp
     obtain ⟨t',hu,hu',i',e1,e2⟩:=parr_get ht hk
     obtain ⟨g,hg,rfl⟩:=hv.ptr_inv
     obtain ⟨r1,r2,r3⟩:=bounds_sound (P:=P) (w:=w) (isS:=false) hx hy (Nat.le_refl n) hh hl
     refine ⟨.slice (some (if n=l then ⟨g,o,none⟩ else (⟨g,o,none⟩:Addr).add (l * k))) (h - l) (n - l),?_, .msl _ _ _ _ _ _ (fun hpos=>⟨g,hg,?_⟩) (by omega) (by omega),rfl⟩
     ·simp only [Instr.sliceAt,Sem.run_bind,run_underlying hu,Result.andThen_ok,Instr.slice,asAddr,run_underlying hu',r1,run_size e1,e2,Sem.run_pure]
     ·rw [if_neg (by omega),Addr.add_lit]
    ·cases hp
   ·cases hp
  ·cases hp
 ·rename_i id o n k
  split at hp
  ·rename_i e k' by_ zr hk
   split at hp
   ·rename_i hkk
    subst hkk
    split at hp
    ·rename_i h hh
     split at hp
     ·rename_i l hl
      cases hp
      obtain ⟨hu,i',z',e1,e2,e3,e4,e5,e6,-,-⟩:=slice_get ht hk
      obtain ⟨a,cap,rfl,c1,c2,c4⟩:=hv.msl_inv
      obtain ⟨r1,r2,r3⟩:=bounds_sound (P:=P) (w:=w) (isS:=true) hx hy c1 hh hl
      refine ⟨.slice (if cap=l then a else a.map (·.add (l * k'))) (h - l) (cap - l),?_,?_,rfl⟩
      ·simp only [Instr.sliceAt,Sem.run_bind,run_underlying hu,Result.andThen_ok,Instr.slice,r1,run_size e1,e3,Sem.run_pure]
      ·refine .msl _ _ _ _ _ _ (fun hpos=>?_) (by omega) (by omega)
       obtain ⟨g,hg,rfl⟩:=c4 (by omega)
       rw [if_neg (by omega)]
       exact ⟨g,hg,by simp only [Option.map_some,Addr.add_lit]⟩
     ·cases hp
    ·cases hp
   ·cases hp
  ·cases hp
 ·rename_i n k cs own
  split at hp
  ·rename_i e k' by_ zr hk
   split at hp
   ·rename_i hkk
    subst hkk
    split at hp
    ·rename_i h hh
     split at hp
     ·rename_i l hl
      cases hp
      obtain ⟨hu,i',z',e1,e2,e3,e4,e5,e6,-,-⟩:=slice_get ht hk
      obtain ⟨a,b,off,cap,us,rfl,c1,c2,c3,c4,c5,c6⟩:=hv.sl_inv
      obtain ⟨r1,r2,r3⟩:=bounds_sound (P:=P) (w:=w) (isS:=true) hx hy c1 hh hl
      refine ⟨.slice (if cap=l then a else a.map (·.add (l * k'))) (h - l) (cap - l),?_,?_,rfl⟩
      ·simp only [Instr.sliceAt,Sem.run_bind,run_underlying hu,Result.andThen_ok,Instr.slice,r1,run_size e1,e3,Sem.run_pure]
      ·by_cases hz:h - l=0
       ·have:(cs.drop (l * k')).take ((h - l) * k') = []:=by rw [hz];simp
        rw [this,hz]
        exact .sl0 _ _ _ _ (by omega)
       ·obtain rfl:=c4 (by omega)
        rw [if_neg (by omega)]
        simp only [Option.map_some,Addr.add_lit]
        have hbig:l * k' + (h - l) * k'≤n * k':=by rw [←Nat.add_mul];exact Nat.mul_le_mul_right _ (by omega)
        refine .sl _ _ _ _ b (off+l * k') _ (fun j=>us (l * k' + j)) ?_ (by omega) (by omega) ?_ ?_
        ·rw [List.length_take,List.length_drop,c3];omega
        ·intro j hj
         rw [List.length_take,List.length_drop,c3] at hj
         rw [Nat.add_assoc]
         exact c5 _ (by omega)
        ·intro j c hc
         rw [List.getElem?_take] at hc
         split at hc
         ·rw [List.getElem?_drop] at hc;exact c6 _ _ hc
         ·cases hc
     ·cases hp
    ·cases hp
   ·cases hp
  ·cases hp
 ·rename_i s
  split at hp
  ·rename_i hk
   split at hp
   ·rename_i h hh
    split at hp
    ·rename_i l hl
     cases hp
     obtain ⟨rfl,-⟩:=hv.val_inv
     have hu:=kind_str ht hk
     obtain ⟨r1,r2,r3⟩:=bounds_sound (P:=P) (w:=w) (isS:=false) hx hy (Nat.le_refl s.size) hh hl
     refine ⟨.string (s.extract l h),?_, .val _ rfl,rfl⟩
     simp [Instr.sliceAt,run_underlying hu,Instr.slice,r1]
    ·cases hp
   ·cases hp
  ·cases hp
 ·cases hp
end
section
open Go.RowKit
def pcells:PV→Option (List PV)
 | .agg cs=>if cs.all PV.one then some (cs.map PV.bare) else none
 |p=>if p.one then some [p.bare] else none
def splice (cs:List PV) (off:Nat) (new:List PV):List PV:=cs.take off ++ new ++ cs.drop (off+new.length)
def splF:List PV→Nat→List PV→List PV
 |cs,0,[]=>cs
 |_ :: cs,0,n :: new=>n :: splF cs 0 new
 | [],0,n :: new=>n :: new
 |c :: cs,off+1,new=>c :: splF cs off new
 | [],_+1,new=>new
theorem splF_eq:∀(cs:List PV) (off:Nat) (new:List PV),off+new.length≤cs.length→splF cs off new=splice cs off new
 |cs,0,[],_=>by cases cs<;>simp [splF,splice]
 |c :: cs,0,n :: new,h=>by
  have:=splF_eq cs 0 new (by simp at h ⊢; omega)
  simp only [splF,this,splice]
  simp [Nat.add_comm]
 | [],0,n :: new,h=>by simp at h
 |c :: cs,off+1,new,h=>by
  have:=splF_eq cs off new (by simp at h;omega)
  simp only [splF,this,splice]
  rw [show off+1+new.length=(off+new.length)+1 by omega]
  simp
 | [],off+1,new,h=>by simp at h
def pfill (place:Nat→Option (Nat×Nat)) (cs:List PV):List (Nat×PV)→Option (List PV)
 | []=>some cs
 |(i,p) :: rest=>match place i,pcells p with
  |some (off,size),some new=>if new.length=size∧off+size≤cs.length then pfill place (splF cs off new) rest else none
  |_,_=>none
def CellsR (Φ:Imm) (μ:Nat→Option Nat) (cs:List PV) (us:List Value):Prop:=RepL Φ μ cs us∧(∀u∈us,u.oneCell' = true)∧∀c∈cs,c.ownB=false
theorem repL_bare {Φ:Imm} {μ:Nat→Option Nat} {cs:List PV} {us:List Value} (h:RepL Φ μ cs us):RepL Φ μ (cs.map PV.bare) us:=by
 refine ⟨by simp [h.1],fun j c u h1 h2=>?_⟩
 rw [List.getElem?_map] at h1
 obtain ⟨c',hc',rfl⟩:=Option.map_eq_some_iff.1 h1
 exact (h.2 j c' u hc' h2).bare
theorem repL_one {Φ:Imm} {μ:Nat→Option Nat} {cs:List PV} {us:List Value} (h:RepL Φ μ cs us) (ho:cs.all PV.one=true):∀u∈us,u.oneCell' = true:=by
 intro u hu
 obtain ⟨j,hj⟩:=List.getElem?_of_mem hu
 have hjl:j < cs.length:=by rw [←h.1];exact (List.getElem?_eq_some_iff.1 hj).1
 exact ((h.2 j cs[j] u (by simp [hjl]) hj).one (List.all_eq_true.1 ho _ (by simp))).1
theorem pcells_sound {Φ:Imm} {μ:Nat→Option Nat} {p:PV} {v:Value} (h:Rep Φ μ p v) {cs:List PV} (hc:pcells p=some cs):CellsR Φ μ cs v.cells.toList:=by
 unfold pcells at hc
 split at hc
 ·rename_i ds
  split at hc
  ·rename_i ho
   cases hc
   obtain ⟨us,rfl,hr⟩:=h.agg_inv
   refine ⟨by simpa [Value.cells] using repL_bare hr,by simpa [Value.cells] using repL_one hr ho,fun c hcm=>?_⟩
   obtain ⟨c',-,rfl⟩:=List.mem_map.1 hcm
   exact PV.bare_own _
  ·cases hc
 ·split at hc
  ·rename_i ho
   cases hc
   obtain ⟨h1,h2⟩:=h.one ho
   rw [h2]
   refine ⟨RepL.cons h.bare RepL.nil,by simpa using h1,by simpa using PV.bare_own _⟩
  ·cases hc
theorem repL_splice {Φ:Imm} {μ:Nat→Option Nat} {cs new:List PV} {us vs:List Value} {off:Nat} (h:CellsR Φ μ cs us) (hn:CellsR Φ μ new vs) (hle:off+new.length≤cs.length):CellsR Φ μ (splice cs off new) (us.take off ++ vs ++ us.drop (off+vs.length)):=by
 have hl:=h.1.1
 have hl2:=hn.1.1
 refine ⟨⟨?_,fun j c u h1 h2=>?_⟩,fun u hu=>?_,fun c hc=>?_⟩
 ·simp only [splice,List.length_append,List.length_take,List.length_drop];omega
 ·unfold splice at h1
  by_cases h3:j < off
  ·rw [List.append_assoc,List.getElem?_append_left (by rw [List.length_take];omega),List.getElem?_take,if_pos h3] at h1 h2
   exact h.1.2 j c u h1 h2
  ·by_cases h4:j < off+new.length
   ·rw [List.append_assoc,List.getElem?_append_right (by rw [List.length_take];omega),List.length_take,List.getElem?_append_left (by omega)] at h1 h2
    rw [show min off cs.length=off by omega] at h1
    rw [show min off us.length=off by omega] at h2
    exact hn.1.2 _ c u h1 h2
   ·rw [List.getElem?_append_right (by rw [List.length_append,List.length_take];omega),List.length_append,List.length_take,List.getElem?_drop] at h1 h2
    rw [show off+new.length+(j - (min off cs.length+new.length))=j by omega] at h1
    rw [show off+vs.length+(j - (min off us.length+vs.length))=j by omega] at h2
    exact h.1.2 j c u h1 h2
 ·simp only [List.mem_append] at hu
  rcases hu with (hu|hu)|hu
  ·exact h.2.1 u (List.mem_of_mem_take hu)
  ·exact hn.2.1 u hu
  ·exact h.2.1 u (List.mem_of_mem_drop hu)
 ·simp only [splice,List.mem_append] at hc
  rcases hc with (hc|hc)|hc
  ·exact h.2.2 c (List.mem_of_mem_take hc)
  ·exact hn.2.2 c hc
  ·exact h.2.2 c (List.mem_of_mem_drop hc)
theorem fold_set (off:Nat):∀(vs:List Value) (k:Nat) (cs:Array Value),off+k+vs.length≤cs.size →
  ((vs.zipIdx k).foldl (fun cs (x:Value×Nat)=>cs.setIfInBounds (off+x.2) x.1) cs).toList=cs.toList.take (off+k) ++ vs ++ cs.toList.drop (off+k+vs.length)
 | [],k,cs,h=>by simp
 |v :: vs,k,cs,h=>by
  simp only [List.length_cons] at h
  rw [List.zipIdx_cons,List.foldl_cons,fold_set off vs (k+1) _ (by simp;omega)]
  simp only [Array.toList_setIfInBounds]
  have hk:off+k < cs.toList.length:=by simp;omega
  rw [show off+(k+1)=off+k+1 by omega]
  rw [List.take_add_one,List.take_set_of_le (by omega),List.getElem?_set_self (by simpa using hk)]
  rw [List.drop_set_of_lt (by omega)]
  simp only [Option.toList_some,List.append_assoc,List.cons_append,List.nil_append,List.length_cons]
  rw [show off+k+1+vs.length=off+k+(vs.length+1) by omega]
theorem fill_sound {Φ:Imm} {μ:Nat→Option Nat} (place:Nat→Option (Nat×Nat)):∀(ps:List (Nat×PV)) (vs:List (Nat×Value)) (cs:List PV) (cur:Array Value) (out:List PV),CellsR Φ μ cs cur.toList →
  vs.length=ps.length→(∀(j:Nat) i p i' v,ps[j]? = some (i,p)→vs[j]? = some (i',v)→i' = i∧Rep Φ μ p v)→pfill place cs ps=some out→∃cur',Instr.fill place cur vs=some cur'∧CellsR Φ μ out cur'.toList
 | [],vs,cs,cur,out,hc,hl,_,h=>by
  obtain rfl:vs = []:=List.eq_nil_of_length_eq_zero (by simpa using hl)
  simp [pfill] at h;subst h
  exact ⟨cur,rfl,hc⟩
 |(i,p) :: ps,[],cs,cur,out,hc,hl,_,h=>by simp at hl
 |(i,p) :: ps,(i',v) :: vs,cs,cur,out,hc,hl,hr,h=>by
  obtain ⟨rfl,hpv⟩:=hr 0 i p i' v rfl rfl
  simp only [pfill] at h
  split at h
  ·rename_i off size new hpl hnew
   split at h
   ·rename_i hcond
    have hn:=pcells_sound hpv hnew
    have hlen:=hn.1.1
    have hl0:=hc.1.1
    simp only [Array.length_toList] at hlen hl0
    have hsp:=repL_splice hc hn (off:=off) (by omega)
    rw [splF_eq cs off new (by omega)] at h
    obtain ⟨cur',r1,r2⟩:=fill_sound place ps vs (splice cs off new) (v.cells.zipIdx.foldl (fun cs (x:Value×Nat)=>cs.setIfInBounds (off+x.2) x.1) cur) out (by
     have:=fold_set off v.cells.toList 0 cur (by simp;omega)
     rw [Nat.add_zero] at this
     rw [←Array.foldl_toList,Array.toList_zipIdx,this];exact hsp) (by simpa using hl) (fun j a b c d e1 e2=>hr (j+1) a b c d (by simpa using e1) (by simpa using e2)) h
    refine ⟨cur',?_,r2⟩
    rw [Instr.fill,hpl]
    simp only
    rw [if_neg (by simp;omega)]
    exact r1
   ·cases h
  ·cases h
def depO (o:Oper) (j:Nat):Bool:=o.after.any fun e=>Region.binds .any e && e.on == j
theorem getD_set (l:Array Bool) (i j:Nat) (h:i < l.size):(l.setIfInBounds i true).getD j false=(decide (j=i) || l.getD j false):=by
 simp only [Array.getD_eq_getD_getElem?,Array.getElem?_setIfInBounds]
 by_cases e:i=j
 ·subst e;simp [h]
 ·have e' : ¬j=i:=fun x=>e x.symm
  simp [e,e']
theorem mem_ready {ops:Array Oper} {listed:Array Bool} {i:Nat} (hs:listed.size=ops.size):i∈Region.ready .any ops listed↔∃o,ops[i]? = some o∧listed.getD i false=false∧∀j,depO o j=true→listed.getD j false=true:=by
 unfold Region.ready
 rw [List.mem_filter,List.mem_range]
 constructor
 ·rintro ⟨h1,h2⟩
  obtain ⟨o,ho⟩:∃o,ops[i]? = some o:=⟨ops[i],by simp [h1]⟩
  rw [ho] at h2
  simp only [Option.map_some,Option.getD_some,Bool.and_eq_true] at h2
  refine ⟨o,ho,?_,fun j hj=>?_⟩
  ·have:i < listed.size:=by omega
   have h3:=h2.1
   simp only [Array.getD_eq_getD_getElem?,Array.getElem?_eq_getElem this,Option.getD_some] at h3 ⊢
   simpa using h3
  ·unfold depO at hj
   rw [Array.any_eq_true] at hj
   obtain ⟨k,hk,hk2⟩:=hj
   simp only [Bool.and_eq_true,beq_iff_eq] at hk2
   have:=(Array.all_eq_true.1 h2.2) k hk
   rw [hk2.1,hk2.2] at this
   simpa using this
 ·rintro ⟨o,ho,h1,h2⟩
  have hi:i < ops.size:=(Array.getElem?_eq_some_iff.1 ho).1
  refine ⟨hi,?_⟩
  rw [ho]
  simp only [Option.map_some,Option.getD_some,Bool.and_eq_true]
  refine ⟨?_,?_⟩
  ·have:i < listed.size:=by omega
   simp only [Array.getD_eq_getD_getElem?,Array.getElem?_eq_getElem this,Option.getD_some] at h1 ⊢
   simp [h1]
  ·rw [Array.all_eq_true]
   intro k hk
   cases hb:Region.binds .any o.after[k]
   ·simp
   ·have:depO o o.after[k].on=true:=by
     unfold depO
     rw [Array.any_eq_true]
     exact ⟨k,hk,by simp [hb]⟩
    simpa using h2 _ this
end
section
open Go.RowKit
variable {P:Program} {ops:Array Oper} {Q:Exit→Act→World→Prop} {a0:Act} {w1:World} {R:Nat→Value→World→Prop} {le:World→World→Prop}
def unlisted (l:Array Bool):Nat:=(List.range l.size).countP fun i => !l.getD i false
theorem unlisted_set (l:Array Bool) (i:Nat) (hi:i < l.size) (h:l.getD i false=false):unlisted (l.setIfInBounds i true) < unlisted l:=by
 unfold unlisted
 rw [Array.size_setIfInBounds]
 have key:∀(r:List Nat),(r.countP fun j => !(l.setIfInBounds i true).getD j false)≤(r.countP fun j => !l.getD j false)∧(i∈r→(r.countP fun j => !(l.setIfInBounds i true).getD j false) < (r.countP fun j => !l.getD j false)):=by
  intro r
  induction r with
  |nil=>simp
  |cons x xs ih=>
   rw [List.countP_cons,List.countP_cons,getD_set _ _ _ hi]
   by_cases e:x=i
   ·subst e
    simp only [h,decide_true,Bool.true_or,Bool.not_true,Bool.not_false,if_true,Bool.false_eq_true,if_false]
    exact ⟨by omega,fun _=>by omega⟩
   ·simp only [e,decide_false,Bool.false_or]
    refine ⟨by omega,fun hm=>?_⟩
    have:=ih.2 (by simpa [Ne.symm e] using hm)
    omega
 exact (key _).2 (List.mem_range.2 hi)
theorem unlisted_zero {l:Array Bool} (h:unlisted l=0):∀i,i < l.size→l.getD i false=true:=by
 intro i hi
 unfold unlisted at h
 rw [List.countP_eq_zero] at h
 simpa using h i (List.mem_range.2 hi)
end
section
open Go.RowKit
theorem elemInt:Elem1 Tryz.prog 3 (.int .i64 0) 8:=⟨by kernel_rfl,rfl⟩
end
section
theorem getGo_leb (rest:List Int):∀(q k:Nat) (acc:Int),k≤9→(q:Int) * 2 ^ (7 * k) < 18446744073709551616→(0 < k→q≠0) →
  getGo (leb q ++ rest) k acc=(unzig (acc+q * 2 ^ (7 * k)),((k+(leb q).length:Nat):Int),0):=by
 intro q
 induction q using Nat.strongRecOn with
 |_ q ih=>
  intro k acc hk hq h0
  have hp:(0:Int) < 2 ^ (7 * k):=Int.pow_pos (by decide)
  by_cases g:q < 128
  ·rw [leb_small q g]
   have h9:k=9→(q:Int)≤1:=by
    intro e;subst e
    have e2:(2:Int) ^ (7 * 9)=9223372036854775808:=by decide
    rw [e2] at hq;omega
   rw [List.cons_append,List.nil_append,getGo,if_neg (by
    rintro (⟨h1,h2⟩|⟨h1,h2⟩)
    ·have:=h9 h1;omega
    ·have:=h0 h1;omega),if_pos (by omega),show (q:Int) % 128=q by omega]
   simp
  ·rw [leb_big q (by omega),List.cons_append,getGo]
   have hk8:k≤8:=by
    by_cases e:k=9
    ·subst e
     have e2:(2:Int) ^ (7 * 9)=9223372036854775808:=by decide
     rw [e2] at hq;omega
    ·omega
   rw [if_neg (by omega),if_neg (by omega)]
   have e1:((q % 128+128:Nat):Int) % 128=((q % 128:Nat):Int):=by omega
   have e7:(2:Int) ^ (7 * (k+1))=128 * 2 ^ (7 * k):=pow7 k
   have e8:((q / 128:Nat):Int) * (128 * 2 ^ (7 * k))=(((q / 128) * 128:Nat):Int) * 2 ^ (7 * k):=by
    rw [←Int.mul_assoc];simp
   have hle:(((q / 128) * 128:Nat):Int) * 2 ^ (7 * k)≤(q:Int) * 2 ^ (7 * k):=Int.mul_le_mul_of_nonneg_right (by omega) (by omega)
   rw [e1,ih (q / 128) (by omega) (k+1) _ (by omega) (by rw [e7,e8];omega) (by omega)]
   have e9:acc+((q % 128:Nat):Int) * 2 ^ (7 * k)+((q / 128:Nat):Int) * 2 ^ (7 * (k+1))=acc+(q:Int) * 2 ^ (7 * k):=by
    rw [e7,e8,Int.add_assoc,←Int.add_mul]
    congr 2;omega
   rw [e9,List.length_cons]
   congr 2;omega
theorem getI_intB (n:Int) (rest:List Int) (h1 : -9223372036854775808≤n) (h2:n≤9223372036854775807):getI (intB n ++ rest)=(n,((intB n).length:Int),0):=by
 have hz:=zig_lt n h1 h2
 rw [getI,intB,getGo_leb rest (zig n) 0 0 (by omega) (by simp;omega) (by omega)]
 simp [unzig_zig]
theorem getN_flat:∀(ds:List Int),(∀z∈ds,-9223372036854775808≤z∧z≤9223372036854775807)→∀rest,getN ds.length ((ds.map intB).flatten ++ rest)=(ds,(((ds.map intB).flatten).length:Int),0)
 | [],_,rest=>rfl
 |d :: r,h,rest=>by
  have hd:=h d (by simp)
  have ih:=getN_flat r (fun z hz=>h z (by simp [hz])) rest
  simp only [List.map_cons,List.flatten_cons,List.length_cons,List.append_assoc]
  rw [getN,getI_intB d _ hd.1 hd.2]
  simp only [ne_eq,not_true_eq_false,if_false,Int.toNat_natCast,List.drop_left]
  rw [ih]
  simp
theorem flat_ge:∀(ds:List Int),ds.length≤((ds.map intB).flatten).length
 | []=>by simp
 |d :: r=>by
  have:=flat_ge r
  have:=leb_pos (zig d)
  simp only [List.map_cons,List.flatten_cons,List.length_append,List.length_cons]
  have e:(intB d).length=(leb (zig d)).length:=rfl
  omega
theorem unzig_nat (q:Nat):zig (unzig q)=q:=by unfold zig unzig;split<;>split<;>omega
theorem getGo_back:∀(l:List Int) (k:Nat) (acc:Int) (x u:Int),(∀c∈l,0≤c∧c < 256)→getGo l k acc=(x,u,0) →
  ∃q m:Nat,u=((k+m:Nat):Int)∧l.take m=leb q∧x=unzig (acc+q * 2 ^ (7 * k))∧(0 < k→q≠0)
 | [],k,acc,x,u,_,h=>by simp [getGo] at h
 |c :: r,k,acc,x,u,hby,h=>by
  obtain ⟨c0,c1⟩:=hby c (by simp)
  rw [getGo] at h
  by_cases g:(k=9∧1 < c)∨(0 < k∧c=0)
  ·rw [if_pos g] at h;simp at h
  ·rw [if_neg g] at h
   by_cases g2:c < 128
   ·rw [if_pos g2] at h
    simp only [Prod.mk.injEq,and_true] at h
    obtain ⟨rfl,rfl⟩:=h
    refine ⟨c.toNat,1,by simp,?_,?_,fun hk=>by omega⟩
    ·rw [leb_small _ (by omega)];simp;omega
    ·rw [show (c.toNat:Int)=c % 128 by omega]
   ·rw [if_neg g2] at h
    obtain ⟨q,m,h1,h2,h3,h4⟩:=getGo_back r (k+1) _ x u (fun d hd=>hby d (by simp [hd])) h
    refine ⟨(c - 128).toNat+128 * q,m+1,by rw [h1];omega,?_,?_,fun _=>by have:=h4 (by omega);omega⟩
    ·have:=h4 (by omega)
     rw [leb_big _ (by omega),List.take_succ_cons,h2]
     congr 1
     ·omega
     ·congr 1;omega
    ·rw [h3,pow7]
     congr 1
     have e1:c % 128=((c - 128).toNat:Int):=by omega
     rw [e1,Int.add_assoc]
     congr 1
     rw [show (((c - 128).toNat+128 * q:Nat):Int)=((c - 128).toNat:Int)+(q:Int) * 128 by omega,Int.add_mul,Int.mul_assoc]
theorem getI_back (l:List Int) (x u:Int) (hby:∀c∈l,0≤c∧c < 256) (h:getI l=(x,u,0)):l.take u.toNat=intB x:=by
 obtain ⟨q,m,h1,h2,h3,_⟩:=getGo_back l 0 0 x u hby h
 rw [h1,h3]
 simp only [Nat.zero_add,Int.toNat_natCast,Nat.mul_zero,Int.pow_zero,Int.mul_one,Int.zero_add,intB,unzig_nat]
 exact h2
theorem getN_back:∀(n:Nat) (l ds:List Int) (u:Int),(∀c∈l,0≤c∧c < 256)→getN n l=(ds,u,0)→l.take u.toNat=(ds.map intB).flatten∧ds.length=n∧0≤u∧u≤l.length
 |0,l,ds,u,_,h=>by
  simp only [getN,Prod.mk.injEq,and_true] at h
  obtain ⟨rfl,rfl⟩:=h
  simp
 |n+1,l,ds,u,hby,h=>by
  rw [getN] at h
  obtain ⟨x,v,e,hr⟩:∃x v e,getI l=(x,v,e):=⟨_,_,_,rfl⟩
  have ok:=getI_ok l hby
  rw [hr] at h ok
  simp only at h ok
  by_cases g:e≠0
  ·rw [if_pos g] at h
   simp only [Prod.mk.injEq] at h
   exact absurd h.2.2 g
  ·rw [if_neg g] at h
   have g' : e=0:=by simpa using g
   subst g'
   obtain ⟨o1,o2,_,_⟩:=ok rfl
   obtain ⟨d2,u2,e2,hr2⟩:∃p s t,getN n (l.drop v.toNat)=(p,s,t):=⟨_,_,_,rfl⟩
   rw [hr2] at h
   simp only at h
   by_cases g2:e2≠0
   ·rw [if_pos g2] at h
    simp only [Prod.mk.injEq] at h
    exact absurd h.2.2 g2
   ·rw [if_neg g2] at h
    have g2' : e2=0:=by simpa using g2
    subst g2'
    simp only [Prod.mk.injEq,and_true] at h
    obtain ⟨rfl,rfl⟩:=h
    obtain ⟨i1,i2,i3,i4⟩:=getN_back n (l.drop v.toNat) d2 u2 (fun c hc=>hby c (List.mem_of_mem_drop hc)) hr2
    have hb:=getI_back l x v hby hr
    rw [List.length_drop] at i4
    refine ⟨?_,by simp [i2],by omega,by omega⟩
    rw [show (v+u2).toNat=v.toNat+u2.toNat by omega,List.take_add,hb,i1]
    simp
def bytesL (s:ByteArray):List Int:=s.data.toList.map fun b=>(b.toNat:Int)
def strOf (bs:List Int):ByteArray:=bs.foldl (fun r n=>r.push (UInt8.ofNat n.toNat)) ByteArray.empty
theorem bytesL_len (s:ByteArray):(bytesL s).length=s.size:=by simp [bytesL]
theorem bytesL_byte (s:ByteArray):∀c∈bytesL s,0≤c∧c < 256:=by
 intro c hc
 obtain ⟨b,_,rfl⟩:=List.mem_map.1 hc
 have:=b.toNat_lt
 omega
theorem foldl_push:∀(bs:List Int) (r:ByteArray),(bs.foldl (fun r n=>r.push (UInt8.ofNat n.toNat)) r).data.toList=r.data.toList ++ bs.map (fun n=>UInt8.ofNat n.toNat)
 | [],r=>by simp
 |b :: bs,r=>by
  rw [List.foldl_cons,foldl_push bs]
  simp [ByteArray.push]
theorem strOf_data (bs:List Int):(strOf bs).data.toList=bs.map (fun n=>UInt8.ofNat n.toNat):=by
 rw [strOf,foldl_push];rfl
theorem strOf_size (bs:List Int):(strOf bs).size=bs.length:=by
 have:=congrArg List.length (strOf_data bs)
 simpa using this
theorem bytesL_strOf (bs:List Int) (h:∀c∈bs,0≤c∧c < 256):bytesL (strOf bs)=bs:=by
 rw [bytesL,strOf_data,List.map_map]
 have:∀c∈bs,((fun b:UInt8=>(b.toNat:Int)) ∘ fun n:Int=>UInt8.ofNat n.toNat) c=c:=by
  intro c hc
  have:=h c hc
  simp only [Function.comp,UInt8.toNat_ofNat']
  omega
 rw [List.map_congr_left this,List.map_id']
theorem ba_ext {a b:ByteArray} (h:a.data.toList=b.data.toList):a=b:=by
 cases a with|mk x=>cases b with|mk y=>cases x;cases y;simp at h;subst h;rfl
theorem strOf_bytesL (s:ByteArray):strOf (bytesL s)=s:=by
 apply ba_ext
 rw [strOf_data,bytesL,List.map_map]
 have:∀b∈s.data.toList,((fun n:Int=>UInt8.ofNat n.toNat) ∘ fun b:UInt8=>(b.toNat:Int)) b=b:=by
  intro b _
  simp
 rw [List.map_congr_left this,List.map_id']
theorem strOf_inj {a b:List Int} (ha:∀c∈a,0≤c∧c < 256) (hb:∀c∈b,0≤c∧c < 256) (h:strOf a=strOf b):a=b:=by
 rw [←bytesL_strOf a ha,←bytesL_strOf b hb,h]
def strB (s:ByteArray):List Int:=intB s.size ++ bytesL s
def strsB (l:List ByteArray):List Int:=intB l.length ++ (l.map strB).flatten
def SmallStrs (l:List ByteArray):Prop:=∀s∈l,s.size≤1000000
theorem strB_len (s:ByteArray) (h:s.size≤1000000):1≤(strB s).length∧(strB s).length≤1000010:=by
 have:=intB_len s.size (by omega) (by omega)
 rw [strB,List.length_append,bytesL_len];omega
theorem strs_len (l:List ByteArray) (h:SmallStrs l):((l.map strB).flatten).length≤1000010 * l.length:=by
 induction l with
 |nil=>simp
 |cons a r ih=>
  have h1:=strB_len a (h a (by simp))
  have h2:=ih (fun z hz=>h z (by simp [hz]))
  simp only [List.map_cons,List.flatten_cons,List.length_append,List.length_cons]
  omega
theorem strs_take (l:List ByteArray) (k:Nat) (a:ByteArray) (h:l[k]? = some a):((l.take (k+1)).map strB).flatten=((l.take k).map strB).flatten ++ strB a:=by
 rw [List.take_add_one,h];simp
def getS (bs:List Int):ByteArray×Int×Int:=
 if (lenL bs 1).2.2≠0 then (ByteArray.empty,0,(lenL bs 1).2.2)
 else (strOf ((bs.drop (lenL bs 1).2.1.toNat).take (lenL bs 1).1.toNat),(lenL bs 1).2.1+(lenL bs 1).1,0)
theorem getS_ok (bs:List Int) (hby:∀c∈bs,0≤c∧c < 256) (h:(getS bs).2.2=0):1≤(getS bs).2.1∧(getS bs).2.1≤bs.length:=by
 unfold getS at *
 have ok:=lenL_ok bs 1 hby
 split at h
 ·rename_i g;exact absurd h g
 ·rename_i g
  rw [if_neg g]
  have:=ok (by simpa using g)
  rw [Int.ediv_one] at this
  simp only
  omega
def getNS:Nat→List Int→List ByteArray×Int×Int
 |0,_=>([],0,0)
 |n+1,bs=>
  if (getS bs).2.2≠0 then ([],0,(getS bs).2.2)
  else if (getNS n (bs.drop (getS bs).2.1.toNat)).2.2≠0 then ([],0,(getNS n (bs.drop (getS bs).2.1.toNat)).2.2)
  else ((getS bs).1 :: (getNS n (bs.drop (getS bs).2.1.toNat)).1,(getS bs).2.1+(getNS n (bs.drop (getS bs).2.1.toNat)).2.1,0)
def andThenS (out:List ByteArray) (at_:Int) (s:List ByteArray×Int×Int):List ByteArray×Int×Int:=
 if s.2.2≠0 then ([],0,s.2.2) else (out ++ s.1,at_+s.2.1,0)
def getStrs (bs:List Int):List ByteArray×Int×Int:=
 if (lenL bs 1).2.2≠0 then ([],0,(lenL bs 1).2.2) else andThenS [] (lenL bs 1).2.1 (getNS (lenL bs 1).1.toNat (bs.drop (lenL bs 1).2.1.toNat))
theorem andThenS_err (out:List ByteArray) (at_:Int) (n:Nat) (bs:List Int) (r:ByteArray×Int×Int) (hr:getS bs=r) (h:r.2.2≠0):andThenS out at_ (getNS (n+1) bs)=([],0,r.2.2):=by
 subst hr
 simp [andThenS,getNS,h]
theorem andThenS_step (out:List ByteArray) (at_:Int) (n:Nat) (bs:List Int) (r:ByteArray×Int×Int) (hr:getS bs=r) (h:r.2.2=0) :
  andThenS out at_ (getNS (n+1) bs)=andThenS (out ++ [r.1]) (at_+r.2.1) (getNS n (bs.drop r.2.1.toNat)):=by
 subst hr
 by_cases g:(getNS n (bs.drop (getS bs).2.1.toNat)).2.2=0
 ·simp [andThenS,getNS,h,g];omega
 ·simp [andThenS,getNS,h,g]
theorem andThenS_done (out:List ByteArray) (at_:Int) (bs:List Int):andThenS out at_ (getNS 0 bs)=(out,at_,0):=by simp [andThenS,getNS]
theorem lenL_at (n:Nat) (rest:List Int) (hn:n≤1000000000000) (h:n≤rest.length):lenL (intB n ++ rest) 1=((n:Int),((intB n).length:Int),0):=by
 have h0:=getI_intB n rest (by omega) (by omega)
 rw [lenL,h0]
 simp only [ne_eq,not_true_eq_false,if_false]
 rw [if_neg (by omega),if_neg (by rw [List.length_append,Int.ediv_one];omega)]
theorem getInts_rest (ds rest:List Int) (h:∀z∈ds,-9223372036854775808≤z∧z≤9223372036854775807) (hl:ds.length≤1000000000000):getInts (intsB ds ++ rest)=(ds,((intsB ds).length:Int),0):=by
 have hg:=flat_ge ds
 have hL:lenL (intsB ds ++ rest) 1=((ds.length:Int),((intB ds.length).length:Int),0):=by
  rw [intsB,List.append_assoc];exact lenL_at _ _ hl (by rw [List.length_append];omega)
 rw [getInts,hL]
 simp only [ne_eq,not_true_eq_false,if_false,Int.toNat_natCast]
 have e:(intsB ds ++ rest).drop (intB ds.length).length=(ds.map intB).flatten ++ rest:=by rw [intsB,List.append_assoc,List.drop_left]
 rw [e,getN_flat ds h rest,andThen]
 simp [intsB]
theorem getS_strB (s:ByteArray) (rest:List Int) (h:s.size≤1000000):getS (strB s ++ rest)=(s,((strB s).length:Int),0):=by
 have hL:lenL (strB s ++ rest) 1=((s.size:Int),((intB s.size).length:Int),0):=by
  rw [strB,List.append_assoc];exact lenL_at _ _ (by omega) (by rw [List.length_append,bytesL_len];omega)
 rw [getS,hL]
 simp only [ne_eq,not_true_eq_false,if_false,Int.toNat_natCast]
 have e:((strB s ++ rest).drop (intB s.size).length).take s.size=bytesL s:=by
  rw [strB,List.append_assoc,List.drop_left,List.take_left' (bytesL_len s)]
 rw [e,strOf_bytesL]
 simp [strB,bytesL_len]
theorem getNS_flat:∀(l:List ByteArray),SmallStrs l→∀rest,getNS l.length ((l.map strB).flatten ++ rest)=(l,(((l.map strB).flatten).length:Int),0)
 | [],_,rest=>rfl
 |d :: r,h,rest=>by
  have hd:=h d (by simp)
  have ih:=getNS_flat r (fun z hz=>h z (by simp [hz])) rest
  simp only [List.map_cons,List.flatten_cons,List.length_cons,List.append_assoc]
  rw [getNS,getS_strB d _ hd]
  simp only [ne_eq,not_true_eq_false,if_false,Int.toNat_natCast,List.drop_left]
  rw [ih]
  simp
theorem strs_ge (l:List ByteArray) (h:SmallStrs l):l.length≤((l.map strB).flatten).length:=by
 induction l with
 |nil=>simp
 |cons a r ih=>
  have h1:=strB_len a (h a (by simp))
  have h2:=ih (fun z hz=>h z (by simp [hz]))
  simp only [List.map_cons,List.flatten_cons,List.length_append,List.length_cons]
  omega
theorem getStrs_rest (l:List ByteArray) (rest:List Int) (h:SmallStrs l) (hl:l.length≤1000000000000):getStrs (strsB l ++ rest)=(l,((strsB l).length:Int),0):=by
 have hg:=strs_ge l h
 have hL:lenL (strsB l ++ rest) 1=((l.length:Int),((intB l.length).length:Int),0):=by
  rw [strsB,List.append_assoc];exact lenL_at _ _ hl (by rw [List.length_append];omega)
 rw [getStrs,hL]
 simp only [ne_eq,not_true_eq_false,if_false,Int.toNat_natCast]
 have e:(strsB l ++ rest).drop (intB l.length).length=(l.map strB).flatten ++ rest:=by rw [strsB,List.append_assoc,List.drop_left]
 rw [e,getNS_flat l h rest,andThenS]
 simp [strsB]
theorem lenL_back (bs:List Int) (n v:Int) (hby:∀c∈bs,0≤c∧c < 256) (h:lenL bs 1=(n,v,0)):bs.take v.toNat=intB n∧0≤n∧1≤v∧v≤bs.length∧n≤bs.length - v:=by
 have ok:=lenL_ok bs 1 hby
 rw [h] at ok
 obtain ⟨o1,o2,o3,o4⟩:=ok rfl
 rw [Int.ediv_one] at o4
 have hI:getI bs=(n,v,0):=by
  rw [lenL] at h
  by_cases k1:(getI bs).2.2≠0
  ·rw [if_pos k1] at h
   simp only [Prod.mk.injEq] at h
   exact absurd h.2.2 k1
  ·rw [if_neg k1] at h
   by_cases k2:(getI bs).1 < 0
   ·rw [if_pos k2] at h;simp at h
   ·rw [if_neg k2] at h
    by_cases k3:(bs.length - (getI bs).2.1) / 1 < (getI bs).1
    ·rw [if_pos k3] at h;simp at h
    ·rw [if_neg k3] at h
     simp only [Prod.mk.injEq,and_true] at h
     have k1' : (getI bs).2.2=0:=by simpa using k1
     rw [←h.1,←h.2,←k1']
 exact ⟨getI_back bs n v hby hI,o1,o2,o3,o4⟩
theorem getInts_take (bs ds:List Int) (u:Int) (hby:∀c∈bs,0≤c∧c < 256) (h:getInts bs=(ds,u,0)):bs.take u.toNat=intsB ds∧0≤u∧u≤bs.length:=by
 rw [getInts] at h
 obtain ⟨n,v,e,hr⟩:∃x v e,lenL bs 1=(x,v,e):=⟨_,_,_,rfl⟩
 rw [hr] at h
 simp only at h
 by_cases g:e≠0
 ·rw [if_pos g] at h
  simp only [Prod.mk.injEq] at h
  exact absurd h.2.2 g
 ·rw [if_neg g] at h
  have g' : e=0:=by simpa using g
  subst g'
  obtain ⟨hb,o1,o2,o3,o4⟩:=lenL_back bs n v hby hr
  obtain ⟨d2,u2,e2,hr2⟩:∃p s t,getN n.toNat (bs.drop v.toNat)=(p,s,t):=⟨_,_,_,rfl⟩
  rw [hr2,andThen] at h
  simp only at h
  by_cases g2:e2≠0
  ·rw [if_pos g2] at h
   simp only [Prod.mk.injEq] at h
   exact absurd h.2.2 g2
  ·rw [if_neg g2] at h
   have g2' : e2=0:=by simpa using g2
   subst g2'
   simp only [Prod.mk.injEq,and_true,List.nil_append] at h
   obtain ⟨rfl,rfl⟩:=h
   obtain ⟨i1,i2,i3,i4⟩:=getN_back n.toNat (bs.drop v.toNat) d2 u2 (fun c hc=>hby c (List.mem_of_mem_drop hc)) hr2
   rw [List.length_drop] at i4
   refine ⟨?_,by omega,by omega⟩
   rw [intsB,i2,show ((n.toNat:Nat):Int)=n by omega,←hb,←i1,show (v+u2).toNat=v.toNat+u2.toNat by omega,List.take_add]
theorem getS_back (bs:List Int) (s:ByteArray) (u:Int) (hby:∀c∈bs,0≤c∧c < 256) (h:getS bs=(s,u,0)):bs.take u.toNat=strB s∧0≤u∧u≤bs.length:=by
 rw [getS] at h
 obtain ⟨n,v,e,hr⟩:∃x v e,lenL bs 1=(x,v,e):=⟨_,_,_,rfl⟩
 rw [hr] at h
 simp only at h
 by_cases g:e≠0
 ·rw [if_pos g] at h
  simp only [Prod.mk.injEq] at h
  exact absurd h.2.2 g
 ·rw [if_neg g] at h
  have g' : e=0:=by simpa using g
  subst g'
  obtain ⟨hb,o1,o2,o3,o4⟩:=lenL_back bs n v hby hr
  simp only [Prod.mk.injEq,and_true] at h
  obtain ⟨rfl,rfl⟩:=h
  refine ⟨?_,by omega,by omega⟩
  have hl:((bs.drop v.toNat).take n.toNat).length=n.toNat:=by rw [List.length_take,List.length_drop];omega
  rw [strB,strOf_size,hl,show ((n.toNat:Nat):Int)=n by omega,←hb,bytesL_strOf _ (fun c hc=>hby c (List.mem_of_mem_drop (List.mem_of_mem_take hc))),show (v+n).toNat=v.toNat+n.toNat by omega,List.take_add]
theorem getNS_back:∀(n:Nat) (l:List Int) (ds:List ByteArray) (u:Int),(∀c∈l,0≤c∧c < 256)→getNS n l=(ds,u,0)→l.take u.toNat=(ds.map strB).flatten∧ds.length=n∧0≤u∧u≤l.length
 |0,l,ds,u,_,h=>by
  simp only [getNS,Prod.mk.injEq,and_true] at h
  obtain ⟨rfl,rfl⟩:=h
  simp
 |n+1,l,ds,u,hby,h=>by
  rw [getNS] at h
  obtain ⟨x,v,e,hr⟩:∃x v e,getS l=(x,v,e):=⟨_,_,_,rfl⟩
  rw [hr] at h
  simp only at h
  by_cases g:e≠0
  ·rw [if_pos g] at h
   simp only [Prod.mk.injEq] at h
   exact absurd h.2.2 g
  ·rw [if_neg g] at h
   have g' : e=0:=by simpa using g
   subst g'
   obtain ⟨hb,o1,o2⟩:=getS_back l x v hby hr
   obtain ⟨d2,u2,e2,hr2⟩:∃p s t,getNS n (l.drop v.toNat)=(p,s,t):=⟨_,_,_,rfl⟩
   rw [hr2] at h
   simp only at h
   by_cases g2:e2≠0
   ·rw [if_pos g2] at h
    simp only [Prod.mk.injEq] at h
    exact absurd h.2.2 g2
   ·rw [if_neg g2] at h
    have g2' : e2=0:=by simpa using g2
    subst g2'
    simp only [Prod.mk.injEq,and_true] at h
    obtain ⟨rfl,rfl⟩:=h
    obtain ⟨i1,i2,i3,i4⟩:=getNS_back n (l.drop v.toNat) d2 u2 (fun c hc=>hby c (List.mem_of_mem_drop hc)) hr2
    rw [List.length_drop] at i4
    refine ⟨?_,by simp [i2],by omega,by omega⟩
    rw [show (v+u2).toNat=v.toNat+u2.toNat by omega,List.take_add,hb,i1]
    simp
theorem getStrs_take (bs:List Int) (ds:List ByteArray) (u:Int) (hby:∀c∈bs,0≤c∧c < 256) (h:getStrs bs=(ds,u,0)):bs.take u.toNat=strsB ds∧0≤u∧u≤bs.length:=by
 rw [getStrs] at h
 obtain ⟨n,v,e,hr⟩:∃x v e,lenL bs 1=(x,v,e):=⟨_,_,_,rfl⟩
 rw [hr] at h
 simp only at h
 by_cases g:e≠0
 ·rw [if_pos g] at h
  simp only [Prod.mk.injEq] at h
  exact absurd h.2.2 g
 ·rw [if_neg g] at h
  have g' : e=0:=by simpa using g
  subst g'
  obtain ⟨hb,o1,o2,o3,o4⟩:=lenL_back bs n v hby hr
  obtain ⟨d2,u2,e2,hr2⟩:∃p s t,getNS n.toNat (bs.drop v.toNat)=(p,s,t):=⟨_,_,_,rfl⟩
  rw [hr2,andThenS] at h
  simp only at h
  by_cases g2:e2≠0
  ·rw [if_pos g2] at h
   simp only [Prod.mk.injEq] at h
   exact absurd h.2.2 g2
  ·rw [if_neg g2] at h
   have g2' : e2=0:=by simpa using g2
   subst g2'
   simp only [Prod.mk.injEq,and_true,List.nil_append] at h
   obtain ⟨rfl,rfl⟩:=h
   obtain ⟨i1,i2,i3,i4⟩:=getNS_back n.toNat (bs.drop v.toNat) d2 u2 (fun c hc=>hby c (List.mem_of_mem_drop hc)) hr2
   rw [List.length_drop] at i4
   refine ⟨?_,by omega,by omega⟩
   rw [strsB,i2,show ((n.toNat:Nat):Int)=n by omega,←hb,←i1,show (v+u2).toNat=v.toNat+u2.toNat by omega,List.take_add]
theorem getInts_short (bs ds:List Int) (u:Int) (hby:∀c∈bs,0≤c∧c < 256) (h:getInts bs=(ds,u,0)):ds.length≤bs.length:=by
 obtain ⟨h1,h2,h3⟩:=getInts_take bs ds u hby h
 have:=congrArg List.length h1
 rw [intsB,List.length_append,List.length_take] at this
 have:=flat_ge ds
 omega
theorem strB_pos (s:ByteArray):1≤(strB s).length:=by
 have:1≤(intB s.size).length:=leb_pos _
 rw [strB,List.length_append];omega
theorem strs_all (l:List ByteArray):l.length≤((l.map strB).flatten).length∧∀s∈l,s.size≤((l.map strB).flatten).length:=by
 induction l with
 |nil=>simp
 |cons a r ih=>
  have h1:=strB_pos a
  have h2:(strB a).length=(intB a.size).length+a.size:=by rw [strB,List.length_append,bytesL_len]
  simp only [List.map_cons,List.flatten_cons,List.length_append,List.length_cons,List.mem_cons]
  refine ⟨by omega,fun s hs=>?_⟩
  rcases hs with rfl|hs
  ·omega
  ·have:=ih.2 s hs;omega
theorem getStrs_len (bs:List Int) (ds:List ByteArray) (u:Int) (hby:∀c∈bs,0≤c∧c < 256) (h:getStrs bs=(ds,u,0)):ds.length≤bs.length∧∀s∈ds,s.size≤bs.length:=by
 obtain ⟨h1,h2,h3⟩:=getStrs_take bs ds u hby h
 have:=congrArg List.length h1
 rw [strsB,List.length_append,List.length_take] at this
 obtain ⟨a,b⟩:=strs_all ds
 exact ⟨by omega,fun s hs=>by have:=b s hs;omega⟩
end
end Go.Proofs.YtmeekbjhpidcgaaGreatDoor
