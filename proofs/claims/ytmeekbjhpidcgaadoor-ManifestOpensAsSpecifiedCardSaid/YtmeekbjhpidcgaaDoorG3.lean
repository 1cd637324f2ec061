/- Out of: Base4, PwA, PwB, PwC, PlainZ, PlainS, Hu, PwS, RegionB, Ra, Rb, Rj, Rc, Rh, Rd. -/
import Derived.Lib.AppendZeros
import Derived.Lib.AppendStr
import Derived.Lib.Hide
import Derived.OrdersIn
import Derived.Laws.BytesString
import Derived.Test.YtmeekbjhpidcgaaDoorG1
namespace Go.Proofs.YtmeekbjhpidcgaaDoor
set_option linter.unusedSimpArgs false
set_option linter.unusedVariables false
set_option linter.unnecessarySimpa false
section
open Go.RowKit
theorem run_append0 {P:Program} (w:World) (t ty e:TypeId) (i:TypeInfo) (ht:P.underlying t=some (.slice e)) (hi:P.info? e=some i) (a a2:Option Addr) (n c c2:Nat) (hnc:n≤c) :
  (Builtin.append_ #[t,t] ty #[.slice a n c, .slice a2 0 c2]).run P w = .ok (.slice a n c) w:=by
 cases a<;>cases a2<;>simp [Builtin.append_,run_underlying ht,sizeOf,typeInfo,hi,Builtin.lenOf,hnc,Builtin.firstCells,loadCells,loadCellsFrom,storeCells]
theorem wp_append0 {P:Program} {ops:Array Oper} {rest:List Oper} {o:Oper} {a:Act} {Q:Exit→Act→World→Prop} {w:World} (s x:Operand) (t E:TypeId) (i:TypeInfo) (hi:P.info? E=some i)
  (hgd:o.guard=none) (ho:o.op = .call { callee:=.builtin .append,args := #[s,x],argTypes := #[t,t] })
  (ht:P.underlying t=some (.slice E)) (b b2:Option Addr) (n c c2:Nat) (hs:a.eval s = .slice b n c) (hx:a.eval x = .slice b2 0 c2) (hnc:n≤c)
  (h:wpList P ops Q rest (a.put o.dst (.slice b n c)) w):wpList P ops Q (o :: rest) a w:=
 Lib.wpList_append_run w hgd s x t t ho _ _ hs hx _ _ (run_append0 w t _ E i ht hi b b2 n c c2 hnc) h
theorem Own.cap {B E:Nat} {w:World} {v:Value} {cs:List Value} (h:Own B E w v cs):∃a c,v = .slice a cs.length c∧cs.length≤c:=by
 rcases h.2 with ⟨rfl,hn⟩|⟨g,cap,cur,rfl,hb,hgg,hc,_⟩
 ·exact ⟨none,0,by rw [hn],by omega⟩
 ·exact ⟨_,cap,rfl,hc⟩
theorem wp_appendR {P:Program} {ops:Array Oper} {rest:List Oper} {o:Oper} {a:Act} {Q:Exit→Act→World→Prop} {w:World} (s x:Operand) (t E:TypeId) (bytes:Nat) (z:Value) (he:Elem1 P E z bytes)
  (hgd:o.guard=none) (ho:o.op = .call { callee:=.builtin .append,args := #[s,x],argTypes := #[t,t] })
  (ht:P.underlying t=some (.slice E)) (B:Nat) (v u:Value) (cs cs2:List Value) (hs:a.eval s=v) (hown:Own B E w v cs)
  (hx:a.eval x=u) (hr:Rd w u cs2) (h1:∀c∈cs2,c.oneCell' = true)
  (h63:cs.length+cs2.length≤maxLen) (hbytes:(cs.length+cs2.length) * bytes≤140737488355328) (hB:B≤w.heap.size)
  (h:∀v' w',Own B E w' v' (cs ++ cs2)→Below B w w'→wpList P ops Q rest (a.put o.dst v') w'):wpList P ops Q (o :: rest) a w:=by
 by_cases hne:0 < cs2.length
 ·exact wp_append s x t E bytes z he hgd ho ht B v u cs cs2 hs hown hx hr hne h1 h63 hbytes hB h
 ·obtain rfl:cs2 = []:=List.eq_nil_of_length_eq_zero (by omega)
  obtain ⟨i0,hi,-⟩:=info_parts he.info
  obtain ⟨b2,c2,-,-,rfl,-⟩:=hr
  obtain ⟨b1,c1,rfl,hc⟩:=hown.cap
  refine wp_append0 s x t E i0 hi hgd ho ht b1 b2 _ c1 c2 hs hx hc (h _ w (by simpa using hown) (Below.refl _ _))
theorem wp_appendStr {P:Program} {ops:Array Oper} {rest:List Oper} {o:Oper} {a:Act} {Q:Exit→Act→World→Prop} {w:World} (s x:Operand) (t ts E:TypeId) (he:Elem1 P E (.int .u8 0) 1)
  (hgd:o.guard=none) (ho:o.op = .call { callee:=.builtin .append,args := #[s,x],argTypes := #[t,ts] })
  (ht:P.underlying t=some (.slice E)) (hts:P.underlying ts=some .string) (B:Nat) (v:Value) (cs:List Value) (st:ByteArray) (hs:a.eval s=v) (hown:Own B E w v cs)
  (hx:a.eval x = .string st) (h63:cs.length+st.size≤1000000000000) (hB:B≤w.heap.size)
  (h:∀v' w',Own B E w' v' (cs ++ Lib.strCells st)→Below B w w'→wpList P ops Q rest (a.put o.dst v') w'):wpList P ops Q (o :: rest) a w:=by
 obtain ⟨i0,hi,hz0,hz1,hz2⟩:=info_parts he.info
 refine Lib.wpList_append_own_string w hgd s x t ts ho B E i0 ht hts hi hz0 hz1 hz2 v cs.length cs hs hown st hx (by unfold maxLen;omega) (by omega) hB ?_
 intro v' w' hown' hg _
 refine h v' w' (by simpa [Own,Lib.strCells_length] using hown') ?_
 exact (Below.refl _ _).grown hg hB (fun k hk=>(World.ownsRow.lt hown k hk).1)
def OwnS (B E k:Nat) (w:World) (v:Value) (rows:List (List Value)):Prop:=w.ownsRow B E k v rows.length rows.flatten∧∀r∈rows,r.length=k
theorem OwnS.nil (B E k:Nat) (w:World):OwnS B E k w (.slice none 0 0) []:=⟨World.ownsRow_nil w B E k,fun r hr=>by simp at hr⟩
theorem OwnS.kept {B E k:Nat} {w w' : World} {v:Value} {rows:List (List Value)} (h:OwnS B E k w v rows) (hb:Below w.heap.size w w'):OwnS B E k w' v rows:=by
 refine ⟨⟨h.1.1,?_⟩,h.2⟩
 rcases h.1.2 with hn|⟨g,cap,cur,rfl,hb1,hgg,rest⟩
 ·exact .inl hn
 ·exact .inr ⟨g,cap,cur,rfl,hb1,by rw [hb.block g (Array.getElem?_eq_some_iff.1 hgg).1];exact hgg,rest⟩
theorem OwnS.cap {B E k:Nat} {w:World} {v:Value} {rows:List (List Value)} (h:OwnS B E k w v rows):∃a cap,v = .slice a rows.length cap∧rows.length≤cap:=by
 rcases h.1.2 with ⟨rfl,hn⟩|⟨g,cap,cur,rfl,hb,hgg,hc,_⟩
 ·exact ⟨none,0,by rw [hn],by omega⟩
 ·exact ⟨_,cap,rfl,hc⟩
theorem flat_getS {α:Type} (k:Nat):∀(rows:List (List α)),(∀r∈rows,r.length=k)→∀(i j:Nat) (r:List α) (u:α),rows[i]? = some r→r[j]? = some u→rows.flatten[i * k+j]? = some u
 | [],_,i,j,r,u,h,_=>by simp at h
 |x :: xs,hk,0,j,r,u,h,hu=>by
  simp at h;subst h
  have hj:j < x.length:=(List.getElem?_eq_some_iff.1 hu).1
  rw [List.flatten_cons,Nat.zero_mul,Nat.zero_add,List.getElem?_append_left hj]
  exact hu
 |x :: xs,hk,i+1,j,r,u,h,hu=>by
  have hx:x.length=k:=hk x (by simp)
  rw [List.flatten_cons,List.getElem?_append_right (by rw [hx,Nat.succ_mul];omega),hx,show (i+1) * k+j - k=i * k+j by rw [Nat.succ_mul];omega]
  exact flat_getS k xs (fun r hr=>hk r (by simp [hr])) i j r u (by simpa using h) hu
theorem OwnS.cells {B E k:Nat} {w:World} {v:Value} {rows:List (List Value)} (h:OwnS B E k w v rows):∃a cap b off,v = .slice a rows.length cap∧rows.length≤cap∧cap≤maxLen∧(0 < rows.length→a=some ⟨b,off,none⟩) ∧
  ∀i j r u,rows[i]? = some r→r[j]? = some u→w.cell? ⟨b,off+i * k+j,none⟩=some u:=by
 rcases h.1.2 with ⟨rfl,hn⟩|⟨g,cap,cur,rfl,hb,hgg,hc,hm,hs,ht⟩
 ·exact ⟨none,0,0,0,by rw [hn],by omega,by unfold maxLen;omega,fun hh=>by omega,fun i j r u hr hu=>by
   have:rows = []:=List.eq_nil_of_length_eq_zero hn
   subst this;simp at hr⟩
 ·refine ⟨_,cap,g,0,rfl,hc,hm,fun _=>rfl,fun i j r u hr hu=>?_⟩
  have:=World.ownsRow.cells h.1 (g:=g) rfl (i * k+j) u (flat_getS k rows h.2 i j r u hr hu)
  rw [←this];unfold Addr.add;split<;>simp_all
inductive PV where
 |undef
 |val (v:Value)
 |nilsl
 |sl (n k:Nat) (cs:List PV) (own:Option TypeId)
 |ptr (id off:Nat)
 |msl (id off n k:Nat)
 |ep (cs:List PV) (off:Nat)
 |fn (f:FuncId) (caps:List PV)
 |agg (cs:List PV)
 |tup (vs:List PV)
 |mref (id:Nat)
 deriving Inhabited
def yieldB:Fn→Array Value→Array Value→Bool
 | .yield _,a,b=>a.isEmpty && b.isEmpty
 |_,_,_=>false
def plainV:Value→Bool
 | .bool _ | .int _ _ | .string _ | .nilFunc | .nilIface | .pointer none | .map none=>true
 | .func f a b=>yieldB f a b
 |_=>false
theorem plainV_one {v:Value} (h:plainV v=true):v.oneCell' = true∧v.cells = #[v]:=by
 cases v<;>simp_all [plainV,Value.oneCell',Value.cells]
abbrev Imm:=Nat→Nat→Option Value
def unB (f:Nat):Nat:=f - 1000000
def fnV (f:Nat) (us:Array Value):Value:=if f < 1000000 then .func (.func f) #[] us else .func (.func (unB f)) us #[]
theorem fnV_func (f:Nat) (us:Array Value):∃n p q,fnV f us = .func (.func n) p q:=by unfold fnV;split<;>exact ⟨_,_,_,rfl⟩
inductive Rep (Φ:Imm) (μ:Nat→Option Nat):PV→Value→Prop
 |undef (v:Value):Rep Φ μ .undef v
 |val (v:Value) (h:plainV v=true):Rep Φ μ (.val v) v
 |nilsl:Rep Φ μ .nilsl (.slice none 0 0)
 |sl0 (k:Nat) (own:Option TypeId) (a:Option Addr) (cap:Nat) (h:cap≤maxLen):Rep Φ μ (.sl 0 k [] own) (.slice a 0 cap)
 |sl (n k:Nat) (cs:List PV) (own:Option TypeId) (b off cap:Nat) (us:Nat→Value) (h1:cs.length=n * k) (h2:n≤cap) (h3:cap≤maxLen)
   (hp:∀j,j < cs.length→Φ b (off+j)=some (us j)) (hr:∀j c,cs[j]? = some c→Rep Φ μ c (us j)):Rep Φ μ (.sl n k cs own) (.slice (some ⟨b,off,none⟩) n cap)
 |ptr (id off g:Nat) (h:μ id=some g):Rep Φ μ (.ptr id off) (.pointer (some ⟨g,off,none⟩))
 |msl (id off n k:Nat) (a:Option Addr) (cap:Nat) (h:0 < n→∃g,μ id=some g∧a=some ⟨g,off,none⟩) (h2:n≤cap) (h3:cap≤maxLen):Rep Φ μ (.msl id off n k) (.slice a n cap)
 |ep (cs:List PV) (off b o:Nat) (us:Nat→Value) (hp:∀j,j < cs.length→Φ b (o+j)=some (us j)) (hr:∀j c,cs[j]? = some c→Rep Φ μ c (us j)) :
   Rep Φ μ (.ep cs off) (.pointer (some ⟨b,o+off,none⟩))
 |fn (f:FuncId) (cs:List PV) (us:Nat→Value) (hr:∀j c,cs[j]? = some c→Rep Φ μ c (us j)):Rep Φ μ (.fn f cs) (fnV f ((List.range cs.length).map us).toArray)
 |agg (cs:List PV) (us:Nat→Value) (hr:∀j c,cs[j]? = some c→Rep Φ μ c (us j)):Rep Φ μ (.agg cs) (.agg ((List.range cs.length).map us).toArray)
 |tup (cs:List PV) (us:Nat→Value) (hr:∀j c,cs[j]? = some c→Rep Φ μ c (us j)):Rep Φ μ (.tup cs) (.tuple ((List.range cs.length).map us).toArray)
 |mref (id g:Nat) (h:μ id=some g):Rep Φ μ (.mref id) (.map (some g))
theorem Rep.mono {Φ Φ' : Imm} {μ μ' : Nat→Option Nat} (hΦ:∀b o u,Φ b o=some u→Φ' b o=some u) (hμ:∀i g,μ i=some g→μ' i=some g) {p:PV} {v:Value} (h:Rep Φ μ p v):Rep Φ' μ' p v:=by
 induction h with
 |undef v=>exact .undef v
 |val v h=>exact .val v h
 |nilsl=>exact .nilsl
 |sl0 k own a cap h=>exact .sl0 k own a cap h
 |sl n k cs own b off cap us h1 h2 h3 hp hr ih=>exact .sl n k cs own b off cap us h1 h2 h3 (fun j hj=>hΦ _ _ _ (hp j hj)) ih
 |ptr id off g h=>exact .ptr id off g (hμ _ _ h)
 |msl id off n k a cap h h2 h3=>exact .msl id off n k a cap (fun hn=>by obtain ⟨g,h1,h4⟩:=h hn;exact ⟨g,hμ _ _ h1,h4⟩) h2 h3
 |ep cs off b o us hp hr ih=>exact .ep cs off b o us (fun j hj=>hΦ _ _ _ (hp j hj)) ih
 |fn f cs us hr ih=>exact .fn f cs us ih
 |agg cs us hr ih=>exact .agg cs us ih
 |tup cs us hr ih=>exact .tup cs us ih
 |mref id g h=>exact .mref id g (hμ _ _ h)
theorem Rep.nilsl_inv {Φ:Imm} {μ:Nat→Option Nat} {v:Value} (h:Rep Φ μ .nilsl v):v = .slice none 0 0:=by cases h;rfl
def PV.bare:PV→PV
 | .sl n k cs _=>.sl n k cs none
 |p=>p
def PV.ownB:PV→Bool
 | .sl _ _ _ (some _)=>true
 |_=>false
theorem PV.bare_own (p:PV):p.bare.ownB=false:=by cases p<;>simp [PV.bare,PV.ownB]
theorem PV.bare_bare (p:PV):p.bare.bare=p.bare:=by cases p<;>rfl
theorem PV.bare_of (p:PV) (h:p.ownB=false):p.bare=p:=by
 cases p with
 |sl n k cs own=>cases own<;>simp_all [PV.bare,PV.ownB]
 |_=>rfl
theorem Rep.bare {Φ:Imm} {μ:Nat→Option Nat} {p:PV} {v:Value} (h:Rep Φ μ p v):Rep Φ μ p.bare v:=by
 cases h with
 |sl0 k own a cap h=>exact .sl0 k none a cap h
 |sl n k cs own b off cap us h1 h2 h3 hp hr=>exact .sl n k cs none b off cap us h1 h2 h3 hp hr
 |undef v=>exact .undef v
 |val v h=>exact .val v h
 |nilsl=>exact .nilsl
 |ptr id off g h=>exact .ptr id off g h
 |msl id off n k a cap h h2 h3=>exact .msl id off n k a cap h h2 h3
 |ep cs off b o us hp hr=>exact .ep cs off b o us hp hr
 |fn f cs us hr=>exact .fn f cs us hr
 |agg cs us hr=>exact .agg cs us hr
 |tup cs us hr=>exact .tup cs us hr
 |mref id g h=>exact .mref id g h
inductive Low:PV→Prop
 |undef:Low .undef
 |val (v:Value):Low (.val v)
 |nilsl:Low .nilsl
 |sl (n k:Nat) (cs:List PV) (own:Option TypeId) (h:∀c∈cs,Low c):Low (.sl n k cs own)
 |ep (cs:List PV) (off:Nat) (h:∀c∈cs,Low c):Low (.ep cs off)
 |fn (f:FuncId) (cs:List PV) (h:∀c∈cs,Low c):Low (.fn f cs)
 |agg (cs:List PV) (h:∀c∈cs,Low c):Low (.agg cs)
 |tup (cs:List PV) (h:∀c∈cs,Low c):Low (.tup cs)
theorem mem_of_get {α:Type} {l:List α} {j:Nat} {c:α} (h:l[j]? = some c):c∈l:=List.mem_of_getElem? h
theorem Rep.low {Φ:Imm} {μ μ' : Nat→Option Nat} {p:PV} {v:Value} (h:Rep Φ μ p v) (hl:Low p):Rep Φ μ' p v:=by
 induction h with
 |undef v=>exact .undef v
 |val v h=>exact .val v h
 |nilsl=>exact .nilsl
 |sl0 k own a cap h=>exact .sl0 k own a cap h
 |sl n k cs own b off cap us h1 h2 h3 hp hr ih=>cases hl with|sl _ _ _ _ hl=>exact .sl n k cs own b off cap us h1 h2 h3 hp (fun j c hj=>ih j c hj (hl c (mem_of_get hj)))
 |ptr id off g h=>cases hl
 |msl id off n k a cap h h2 h3=>cases hl
 |ep cs off b o us hp hr ih=>cases hl with|ep _ _ hl=>exact .ep cs off b o us hp (fun j c hj=>ih j c hj (hl c (mem_of_get hj)))
 |fn f cs us hr ih=>cases hl with|fn _ _ hl=>exact .fn f cs us (fun j c hj=>ih j c hj (hl c (mem_of_get hj)))
 |agg cs us hr ih=>cases hl with|agg _ hl=>exact .agg cs us (fun j c hj=>ih j c hj (hl c (mem_of_get hj)))
 |tup cs us hr ih=>cases hl with|tup _ hl=>exact .tup cs us (fun j c hj=>ih j c hj (hl c (mem_of_get hj)))
 |mref id g h=>cases hl
inductive Flat:PV→Prop
 |undef:Flat .undef
 |val (v:Value):Flat (.val v)
 |nilsl:Flat .nilsl
 |agg (cs:List PV) (h:∀c∈cs,Flat c):Flat (.agg cs)
 |tup (cs:List PV) (h:∀c∈cs,Flat c):Flat (.tup cs)
theorem Rep.flat {Φ Φ' : Imm} {μ μ' : Nat→Option Nat} {p:PV} {v:Value} (h:Rep Φ μ p v) (hl:Flat p):Rep Φ' μ' p v:=by
 induction h with
 |undef v=>exact .undef v
 |val v h=>exact .val v h
 |nilsl=>exact .nilsl
 |sl0 k own a cap h=>cases hl
 |sl n k cs own b off cap us h1 h2 h3 hp hr ih=>cases hl
 |ptr id off g h=>cases hl
 |msl id off n k a cap h h2 h3=>cases hl
 |ep cs off b o us hp hr ih=>cases hl
 |fn f cs us hr ih=>cases hl
 |agg cs us hr ih=>cases hl with|agg _ hl=>exact .agg cs us (fun j c hj=>ih j c hj (hl c (mem_of_get hj)))
 |tup cs us hr ih=>cases hl with|tup _ hl=>exact .tup cs us (fun j c hj=>ih j c hj (hl c (mem_of_get hj)))
 |mref id g h=>cases hl
inductive PMap where
 |map (es:List (Nat×PV×PV)) (clock:Nat)
 |iter (mid since:Nat) (seen:List Nat) (last:Nat)
 deriving Inhabited
structure PS where
 t:Nat→PV
 b:Nat→Option (List PV)
 m:Nat→Option PMap
def upd {α:Type} (f:Nat→α) (i:Nat) (x:α) (j:Nat):α:=cond (Nat.beq j i) x (f j)
theorem upd_if {α:Type} (f:Nat→α) (i:Nat) (x:α) (j:Nat):upd f i x j=if j=i then x else f j:=by
 unfold upd
 by_cases h:j=i
 ·subst h;simp
 ·have:Nat.beq j i=false:=by
   cases hb:Nat.beq j i with
   |false=>rfl
   |true=>exact absurd (Nat.eq_of_beq_eq_true hb) h
  rw [this,if_neg h];rfl
theorem upd_same {α:Type} (f:Nat→α) (i:Nat) (x:α):upd f i x i=x:=by simp [upd_if]
theorem upd_ne {α:Type} (f:Nat→α) {i j:Nat} (x:α) (h:j≠i):upd f i x j=f j:=by simp [upd_if,h]
theorem upd_comm {α:Type} (f:Nat→α) {i j:Nat} (x y:α) (h:i≠j):upd (upd f i x) j y=upd (upd f j y) i x:=by
 funext k;simp only [upd_if];by_cases h1:k=i<;>by_cases h2:k=j<;>simp_all
def PS.put (σ:PS) (d:Nat) (p:PV):PS:={ σ with t:=upd σ.t d p }
inductive Who where
 |box (id:Nat)
 |tmp (t:Nat)
 |cell (id off:Nat)
 deriving DecidableEq
def GlobOK (Φ:Imm):Prop:=∀x∈globTab,∀j z,x.2.2[j]? = some z→Φ x.1 j=some (.int x.2.1 z)
def globPV (g:Nat):List (Nat×IntKind×List Int)→PV
 | []=>.undef
 |(g',k,zs) :: l=>cond (Nat.beq g g') (.ep (zs.map fun z=>.val (.int k z)) 0) (globPV g l)
theorem globPV_rep {Φ:Imm} {μ:Nat→Option Nat} {g:Nat} : ∀(l:List (Nat×IntKind×List Int)),(∀x∈l,∀j z,x.2.2[j]? = some z→Φ x.1 j=some (.int x.2.1 z))→Rep Φ μ (globPV g l) (.pointer (some ⟨g,0,none⟩))
 | [],_=>.undef _
 |x :: l,h=>by
  unfold globPV
  cases hb:Nat.beq g x.1 with
  |false=>exact globPV_rep l fun y hy=>h y (List.mem_cons_of_mem _ hy)
  |true=>
   have e:=Nat.eq_of_beq_eq_true hb
   subst e
   refine Rep.ep (Φ:=Φ) (μ:=μ) _ 0 x.1 0 (fun j=>.int x.2.1 (x.2.2.getD j 0)) (fun j hj=>?_) (fun j c hc=>?_)
   ·have hj' : j < x.2.2.length:=by simpa using hj
    rw [Nat.zero_add]
    refine h x (List.mem_cons_self ..) j _ ?_
    rw [List.getD_eq_getElem?_getD,List.getElem?_eq_getElem hj'];rfl
   ·rw [List.getElem?_map] at hc
    cases hz:x.2.2[j]? with
    |none=>rw [hz] at hc;cases hc
    |some z=>
     rw [hz] at hc
     simp only [Option.map_some,Option.some.injEq] at hc
     subst hc
     rw [List.getD_eq_getElem?_getD,hz]
     exact .val _ rfl
theorem globPV_own (g:Nat):∀l,(globPV g l).ownB=false
 | []=>rfl
 |x :: l=>by unfold globPV;cases Nat.beq g x.1 with
  |false=>exact globPV_own g l
  |true=>rfl
def isI64:Value→Bool
 | .int .i64 _=>true
 |_=>false
def Mix (Φ:Imm) (g:Nat):Prop:=∀o u,Φ g o=some u→∃o' u',Φ g o' = some u'∧isI64 u' = false
theorem mix_all {Φ:Imm} {g:Nat} (h:∀o u,Φ g o=some u→isI64 u=false):Mix Φ g:=fun o u e=>⟨o,u,e,h o u e⟩
structure Ent where
 imm:Imm
 giv:Nat→Prop
 mu:Nat→Option Nat
 glob:GlobOK imm
 fl:∀g,giv g→Mix imm g
 marks:List Nat
 round:Option Nat
def collD (m:Nat):Deferred:={ target:=.collected m,args := #[] }
def Mine (Φ0:Ent) (W:World) (g:Nat):Prop:=W.heap.size≤g∨Φ0.giv g
def Old (Φ0:Ent) (W:World) (g:Nat):Prop:=g < W.heap.size∧¬Φ0.giv g
def RndOK (Φ0:Ent) (W:World):Prop:=∀l,Φ0.round=some l→Old Φ0 W l∧∃r,W.heap[l]? = some (.loop r)
theorem Mine.ne {Φ0:Ent} {W:World} {g b:Nat} (h:Mine Φ0 W g) (k:Old Φ0 W b):b≠g:=by
 rintro rfl
 rcases h with h|h
 ·have:=k.1;omega
 ·exact k.2 h
structure Kept (S:Nat→Prop) (w w' : World):Prop where
 os:w'.os=w.os
 tape:w'.tape=w.tape
 output:w'.output=w.output
 size:w.heap.size≤w'.heap.size
 block:∀k,S k→w'.heap[k]? = w.heap[k]?
theorem Kept.refl (S:Nat→Prop) (w:World):Kept S w w:=⟨rfl,rfl,rfl,Nat.le_refl _,fun _ _=>rfl⟩
theorem Kept.trans {S:Nat→Prop} {a b c:World} (h:Kept S a b) (k:Kept S b c):Kept S a c:=
 ⟨k.os.trans h.os,k.tape.trans h.tape,k.output.trans h.output,Nat.le_trans h.size k.size,fun i hi=>(k.block i hi).trans (h.block i hi)⟩
theorem Kept.drew {S:Nat→Prop} {a w:World} (h:Kept S a w):Kept S a w.drew:=⟨h.os,h.tape,h.output,h.size,h.block⟩
theorem Kept.mono {S S' : Nat→Prop} {w w' : World} (h:Kept S w w') (hS:∀k,S' k→S k):Kept S' w w':=⟨h.os,h.tape,h.output,h.size,fun k hk=>h.block k (hS k hk)⟩
theorem Kept.of {B:Nat} {S:Nat→Prop} {w w' : World} (h:Below B w w') (hS:∀k,S k→k < B):Kept S w w':=⟨h.os,h.tape,h.output,h.size,fun k hk=>h.block k (hS k hk)⟩
theorem Kept.to {B:Nat} {S:Nat→Prop} {w w' : World} (h:Kept S w w') (hS:∀k,k < B→S k):Below B w w':=⟨h.os,h.tape,h.output,h.size,fun k hk=>h.block k (hS k hk)⟩
theorem Kept.alloc {Φ0:Ent} {W w:World} (h:Kept (Old Φ0 W) W w) (o:Obj):Kept (Old Φ0 W) W (w.alloc o):=
 h.trans ⟨rfl,rfl,rfl,by simp,fun k hk=>Below.heap_alloc _ _ _ (by have:=hk.1;have:=h.size;omega)⟩
def OwnAt (B:Nat→Prop) (Φ:Imm) (ω:Nat→Option Who) (w:World) (p:Who) (n k:Nat) (E:TypeId) (v:Value):Prop:=
 (v = .slice none 0 0∧n=0)∨(∃g cap cur,v = .slice (some ⟨g,0,none⟩) n cap∧B g∧w.heap[g]? = some (.cells cur E (0,0))∧n≤cap∧cap≤maxLen∧cur.size=cap * k∧ω g=some p∧E < 1000000∧∀j,n * k≤j→Φ g j=none)∨(1000000≤E∧∃ad,v = .slice ad n n)
def BoxAt (B:Nat→Prop) (Φ:Imm) (μ:Nat→Option Nat) (ω:Nat→Option Who) (w:World) (id:Nat) (bs:List PV):Prop:=
 ∃g cur T,μ id=some g∧w.heap[g]? = some (.cells cur T (0,0))∧B g∧ω g=some (.box id)∧(∀j,Φ g j=none)∧bs.length≤cur.size∧∀j c,bs[j]? = some c→∃u,cur[j]? = some u∧u.oneCell' = true∧Rep Φ μ c u ∧
  ∀n k cs E,c = .sl n k cs (some E)→OwnAt B Φ ω w (.cell id j) n k E u
def KeptBy (S:Who→Prop) (Φ Φ' : Imm) (ω ω' : Nat→Option Who) (w w' : World):Prop:=∀q,S q→∀g,ω g=some q→w'.heap[g]? = w.heap[g]?∧(∀j,Φ' g j=Φ g j)∧ω' g=some q
def OfId (id:Nat) (q:Who):Prop:=q = .box id∨∃j,q = .cell id j
theorem OwnAt.step {Φ:Imm} {ω:Nat→Option Who} {w:World} {B:Nat→Prop} {p:Who} {n k:Nat} {E:TypeId} {v:Value} (ho:OwnAt B Φ ω w p n k E v) {Φ' : Imm} {ω' : Nat→Option Who} {w' : World} (hk:∀g,ω g=some p→w'.heap[g]? = w.heap[g]?∧(∀j,Φ' g j=Φ g j)∧ω' g=some p):OwnAt B Φ' ω' w' p n k E v:=by
 rcases ho with ho|⟨g,cap,cur,h1,h2,h3,h4,h5,h6,h7,h8⟩|ho
 rotate_left 2
 ·exact .inr (.inr ho)
 ·exact .inl ho
 ·obtain ⟨k1,k2,k3⟩:=hk g h7
  exact .inr (.inl ⟨g,cap,cur,h1,h2,by rw [k1];exact h3,h4,h5,h6,k3,h8.1,fun j hj=>by rw [k2];exact h8.2 j hj⟩)
theorem OwnAt.inB {Φ:Imm} {ω:Nat→Option Who} {w:World} {B B' : Nat→Prop} {p:Who} {n k:Nat} {E:TypeId} {v:Value} (ho:OwnAt B Φ ω w p n k E v) (h:∀g,ω g=some p→B' g):OwnAt B' Φ ω w p n k E v:=by
 rcases ho with ho|⟨g,cap,cur,h1,h2,h3,h4,h5,h6,h7,h8⟩|ho
 rotate_left 2
 ·exact .inr (.inr ho)
 ·exact .inl ho
 ·exact .inr (.inl ⟨g,cap,cur,h1,h g h7,h3,h4,h5,h6,h7,h8⟩)
theorem BoxAt.step {B:Nat→Prop} {Φ Φ' : Imm} {μ μ' : Nat→Option Nat} {ω ω' : Nat→Option Who} {w w' : World} {id:Nat} {bs:List PV} (h:BoxAt B Φ μ ω w id bs) (hΦ:∀b o u,Φ b o=some u→Φ' b o=some u) (hμ:∀i g,μ i=some g→μ' i=some g) (hk:KeptBy (OfId id) Φ Φ' ω ω' w w'):BoxAt B Φ' μ' ω' w' id bs:=by
 obtain ⟨g,cur,T,h1,h2,h3,h4,h5,h6,h7⟩:=h
 obtain ⟨k1,k2,k3⟩:=hk _ (.inl rfl) g h4
 refine ⟨g,cur,T,hμ _ _ h1,by rw [k1];exact h2,h3,k3,fun j=>by rw [k2];exact h5 j,h6,fun j c hc=>?_⟩
 obtain ⟨u,r1,r2,r3,r4⟩:=h7 j c hc
 exact ⟨u,r1,r2,r3.mono hΦ hμ,fun n k cs E e=>(r4 n k cs E e).step (hk _ (.inr ⟨j,rfl⟩))⟩
def StampsOK (es:List (Nat×PV×PV)) (clock:Nat):Prop:=(es.map (·.1)).Nodup∧∀e∈es,e.1 < clock
def MapAt (B:Nat→Prop) (Φ:Imm) (μ:Nat→Option Nat) (ω:Nat→Option Who) (w:World) (id:Nat) (M:PMap):Prop:=
 ∃g,μ id=some g∧B g∧ω g=some (.box id)∧(∀j,Φ g j=none)∧match M with
  | .map es clock=>StampsOK es clock∧∃ents,w.heap[g]? = some (.map ents clock)∧ents.size=es.length∧∀(j:Nat) s k c,es[j]? = some (s,k,c)→∃e,ents[j]? = some e∧e.born=s∧Rep Φ μ k e.key∧Rep Φ μ c e.val ∧
    ∀n kk cs E,c = .sl n kk cs (some E)→OwnAt B Φ ω w (.cell id s) n kk E e.val
  | .iter mid since seen last=>∃gm,μ mid=some gm∧w.heap[g]? = some (.mapIter (some gm) since seen.toArray last)
theorem MapAt.step {B:Nat→Prop} {Φ Φ' : Imm} {μ μ' : Nat→Option Nat} {ω ω' : Nat→Option Who} {w w' : World} {id:Nat} {M:PMap} (h:MapAt B Φ μ ω w id M) (hΦ:∀b o u,Φ b o=some u→Φ' b o=some u) (hμ:∀i g,μ i=some g→μ' i=some g) (hk:KeptBy (OfId id) Φ Φ' ω ω' w w'):MapAt B Φ' μ' ω' w' id M:=by
 obtain ⟨g,h1,h2,h3,h4,h5⟩:=h
 obtain ⟨k1,k2,k3⟩:=hk _ (.inl rfl) g h3
 refine ⟨g,hμ _ _ h1,h2,k3,fun j=>by rw [k2];exact h4 j,?_⟩
 cases M with
 |map es clock=>
  obtain ⟨e0,ents,e1,e2,e3⟩:=h5
  refine ⟨e0,ents,by rw [k1];exact e1,e2,fun j s k c hj=>?_⟩
  obtain ⟨e,f1,f2,f3,f4,f5⟩:=e3 j s k c hj
  exact ⟨e,f1,f2,f3.mono hΦ hμ,f4.mono hΦ hμ,fun n kk cs E ec=>(f5 n kk cs E ec).step (hk _ (.inr ⟨s,rfl⟩))⟩
 |iter mid since seen last=>
  obtain ⟨gm,e1,e2⟩:=h5
  exact ⟨gm,hμ _ _ e1,by rw [k1];exact e2⟩
structure RelG (Φ0:Ent) (W:World) (M:Nat) (Φ:Imm) (μ:Nat→Option Nat) (ω:Nat→Option Who) (σ:PS) (a:Act) (w:World):Prop where
 below:Kept (Old Φ0 W) W w
 defers:a.defers=Φ0.marks.map collD∧RndOK Φ0 W
 size:a.tmps.size=M
 imm:∀b o u,Φ b o=some u→w.cell? ⟨b,o,none⟩=some u
 old:∀b o,Old Φ0 W b→Φ b o=Φ0.imm b o
 tmps:∀t,Rep Φ μ (σ.t t) (a.tmps.getD t undef)
 own:∀t n k cs E,σ.t t = .sl n k cs (some E)→OwnAt (Mine Φ0 W) Φ ω w (.tmp t) n k E (a.tmps.getD t undef)
 box:∀id bs,σ.b id=some bs→BoxAt (Mine Φ0 W) Φ μ ω w id bs
 gone:∀id,σ.b id=none→σ.m id=none→μ id=none
 lt:∀g p,ω g=some p→g < w.heap.size
 gmu:∀id g,Φ0.mu id=some g→1000000≤id
 kmu:∀id g,Φ0.mu id=some g→(σ.b id≠none∨σ.m id≠none)→μ id=some g
 ext:∀b o u,Φ0.imm b o=some u→Φ b o=some u∧b < W.heap.size
 map:∀id X,σ.m id=some X→MapAt (Mine Φ0 W) Φ μ ω w id X
 mine:∀g p,ω g=some p→Mine Φ0 W g
def Rel (Φ0:Ent) (W:World) (M:Nat) (σ:PS) (a:Act) (w:World):Prop:=∃Φ μ ω,RelG Φ0 W M Φ μ ω σ a w
theorem getD_put (a:Act) (d t:Nat) (v:Value) (hd:d < a.tmps.size):(a.put (some d) v).tmps.getD t undef=if t=d then v else a.tmps.getD t undef:=by
 simp only [Act.put,Array.getD_eq_getD_getElem?,Array.getElem?_setIfInBounds]
 by_cases h:d=t
 ·subst h;simp [hd]
 ·rw [if_neg h,if_neg (fun e=>h e.symm)]
end
section
open Go.RowKit
variable {Φ0:Ent} {W:World} {M:Nat} {Φ:Imm} {μ:Nat→Option Nat} {ω:Nat→Option Who} {σ:PS} {a:Act} {w:World}
theorem RelG.put (h:RelG Φ0 W M Φ μ ω σ a w) {d:Nat} (hd:d < M) {p:PV} {v:Value} (hp:Rep Φ μ p v) (ho:p.ownB=false):RelG Φ0 W M Φ μ ω (σ.put d p) (a.put (some d) v) w:=by
 have hd' : d < a.tmps.size:=by rw [h.size];exact hd
 refine { h with defers:=h.defers,size:=by simp [Act.put,h.size],tmps:=fun t=>?_,own:=fun t n k cs E e=>?_ }
 ·rw [getD_put _ _ _ _ hd']
  by_cases ht:t=d
  ·simp only [PS.put,upd_if,if_pos ht];exact hp
  ·simp only [PS.put,upd_if,if_neg ht];exact h.tmps t
 ·rw [getD_put _ _ _ _ hd']
  by_cases ht:t=d
  ·simp only [PS.put,upd_if,if_pos ht] at e;rw [e] at ho;simp [PV.ownB] at ho
  ·simp only [PS.put,upd_if,if_neg ht] at e ⊢; exact h.own t n k cs E e
theorem RelG.strip (h:RelG Φ0 W M Φ μ ω σ a w) (t:Nat):RelG Φ0 W M Φ μ ω { σ with t:=upd σ.t t (σ.t t).bare } a w:=by
 refine { h with tmps:=fun u=>?_,own:=fun u n k cs E e=>?_ }
 ·simp only [upd_if]
  split
  ·rename_i e;subst e;exact (h.tmps u).bare
  ·exact h.tmps u
 ·simp only [upd_if] at e
  split at e
  ·have:=PV.bare_own (σ.t t);rw [e] at this;simp [PV.ownB] at this
  ·exact h.own u n k cs E e
theorem RelG.forget (h:RelG Φ0 W M Φ μ ω σ a w) (f:Nat→PV) (hf:∀t,f t = .undef∨f t=σ.t t∨f t=(σ.t t).bare∨(∃k E,f t = .sl 0 k [] (some E)∧σ.t t = .nilsl)):RelG Φ0 W M Φ μ ω { σ with t:=f } a w:=by
 refine { h with tmps:=fun u=>?_,own:=fun u n k cs E e=>?_ }
 ·rcases hf u with e|e|e|⟨k,E,e,e'⟩<;>simp only [e]
  ·exact .undef _
  ·exact h.tmps u
  ·exact (h.tmps u).bare
  ·have:=h.tmps u
   rw [e'] at this
   rw [this.nilsl_inv]
   exact .sl0 _ _ _ _ (by unfold maxLen;omega)
 ·simp only at e
  rcases hf u with e' | e' | e' | ⟨k',E',e',e''⟩
  ·rw [e'] at e;cases e
  ·rw [e'] at e;exact h.own u n k cs E e
  ·rw [e'] at e;have:=PV.bare_own (σ.t u);rw [e] at this;simp [PV.ownB] at this
  ·rw [e'] at e
   cases e
   have:=h.tmps u
   rw [e''] at this
   exact .inl ⟨this.nilsl_inv,rfl⟩
theorem RelG.glob (h:RelG Φ0 W M Φ μ ω σ a w):GlobOK Φ:=fun x hx j z e=>(h.ext _ _ _ (Φ0.glob x hx j z e)).1
end
section
open Go.RowKit
def RepL (Φ:Imm) (μ:Nat→Option Nat) (cs:List PV) (vs:List Value):Prop:=vs.length=cs.length∧∀(j:Nat) c u,cs[j]? = some c→vs[j]? = some u→Rep Φ μ c u
theorem RepL.nil {Φ:Imm} {μ:Nat→Option Nat} : RepL Φ μ [] []:=⟨rfl,fun j c u h=>by simp at h⟩
theorem RepL.cons {Φ:Imm} {μ:Nat→Option Nat} {c:PV} {u:Value} {cs:List PV} {us:List Value} (h:Rep Φ μ c u) (hs:RepL Φ μ cs us):RepL Φ μ (c :: cs) (u :: us):=by
 refine ⟨by simp [hs.1],fun j c' u' h1 h2=>?_⟩
 cases j with
 |zero=>simp at h1 h2;subst h1 h2;exact h
 |succ j=>simp at h1 h2;exact hs.2 j c' u' h1 h2
theorem RepL.mono {Φ Φ' : Imm} {μ μ' : Nat→Option Nat} (hΦ:∀b o u,Φ b o=some u→Φ' b o=some u) (hμ:∀i g,μ i=some g→μ' i=some g) {cs:List PV} {us:List Value} (h:RepL Φ μ cs us):RepL Φ' μ' cs us:=
 ⟨h.1,fun j c u h1 h2=>(h.2 j c u h1 h2).mono hΦ hμ⟩
theorem RepL.get {Φ:Imm} {μ:Nat→Option Nat} {cs:List PV} {us:List Value} (h:RepL Φ μ cs us) {j:Nat} {c:PV} (hc:cs[j]? = some c):∃u,us[j]? = some u∧Rep Φ μ c u:=by
 have hj:j < us.length:=by rw [h.1];exact (List.getElem?_eq_some_iff.1 hc).1
 exact ⟨us[j],by simp [hj],h.2 j c _ hc (by simp [hj])⟩
theorem range_map_get {n:Nat} (us:List Value) (hu:us.length=n):((List.range n).map (fun j=>us.getD j undef))=us:=by
 apply List.ext_getElem
 ·simp [hu]
 ·intro i h1 h2
  simp [List.getD_eq_getElem?_getD,h2]
theorem RepL.us {Φ:Imm} {μ:Nat→Option Nat} {cs:List PV} {us:List Value} (h:RepL Φ μ cs us):∀j c,cs[j]? = some c→Rep Φ μ c (us.getD j undef):=by
 intro j c hc
 obtain ⟨u,hu,hr⟩:=h.get hc
 rw [List.getD_eq_getElem?_getD,hu];exact hr
theorem RepL.agg {Φ:Imm} {μ:Nat→Option Nat} {cs:List PV} {us:List Value} (h:RepL Φ μ cs us):Rep Φ μ (.agg cs) (.agg us.toArray):=by
 have:=Rep.agg (Φ:=Φ) (μ:=μ) cs (fun j=>us.getD j undef) h.us
 rwa [range_map_get us h.1] at this
theorem RepL.tup {Φ:Imm} {μ:Nat→Option Nat} {cs:List PV} {us:List Value} (h:RepL Φ μ cs us):Rep Φ μ (.tup cs) (.tuple us.toArray):=by
 have:=Rep.tup (Φ:=Φ) (μ:=μ) cs (fun j=>us.getD j undef) h.us
 rwa [range_map_get us h.1] at this
theorem RepL.fn {Φ:Imm} {μ:Nat→Option Nat} {cs:List PV} {us:List Value} (f:FuncId) (h:RepL Φ μ cs us):Rep Φ μ (.fn f cs) (fnV f us.toArray):=by
 have:=Rep.fn (Φ:=Φ) (μ:=μ) f cs (fun j=>us.getD j undef) h.us
 rwa [range_map_get us h.1] at this
theorem repL_of_us {Φ:Imm} {μ:Nat→Option Nat} (cs:List PV) (us:Nat→Value) (hr:∀j c,cs[j]? = some c→Rep Φ μ c (us j)):RepL Φ μ cs ((List.range cs.length).map us):=by
 refine ⟨by simp,fun j c u h1 h2=>?_⟩
 have hj:j < cs.length:=(List.getElem?_eq_some_iff.1 h1).1
 simp [hj] at h2
 subst h2;exact hr j c h1
theorem Rep.agg_inv {Φ:Imm} {μ:Nat→Option Nat} {cs:List PV} {v:Value} (h:Rep Φ μ (.agg cs) v):∃us,v = .agg us.toArray∧RepL Φ μ cs us:=by
 cases h with|agg _ us hr=>exact ⟨_,rfl,repL_of_us cs us hr⟩
theorem Rep.tup_inv {Φ:Imm} {μ:Nat→Option Nat} {cs:List PV} {v:Value} (h:Rep Φ μ (.tup cs) v):∃us,v = .tuple us.toArray∧RepL Φ μ cs us:=by
 cases h with|tup _ us hr=>exact ⟨_,rfl,repL_of_us cs us hr⟩
theorem Rep.fn_inv {Φ:Imm} {μ:Nat→Option Nat} {f:FuncId} {cs:List PV} {v:Value} (h:Rep Φ μ (.fn f cs) v):∃us,v=fnV f us.toArray∧RepL Φ μ cs us:=by
 cases h with|fn _ _ us hr=>exact ⟨_,rfl,repL_of_us cs us hr⟩
theorem Rep.val_inv {Φ:Imm} {μ:Nat→Option Nat} {u v:Value} (h:Rep Φ μ (.val u) v):v=u∧plainV u=true:=by
 cases h with|val _ h=>exact ⟨rfl,h⟩
theorem Rep.ptr_inv {Φ:Imm} {μ:Nat→Option Nat} {id off:Nat} {v:Value} (h:Rep Φ μ (.ptr id off) v):∃g,μ id=some g∧v = .pointer (some ⟨g,off,none⟩):=by
 cases h with|ptr _ _ g h=>exact ⟨g,h,rfl⟩
theorem Rep.mref_inv {Φ:Imm} {μ:Nat→Option Nat} {id:Nat} {v:Value} (h:Rep Φ μ (.mref id) v):∃g,μ id=some g∧v = .map (some g):=by
 cases h with|mref _ g h=>exact ⟨g,h,rfl⟩
theorem Rep.msl_inv {Φ:Imm} {μ:Nat→Option Nat} {id off n k:Nat} {v:Value} (h:Rep Φ μ (.msl id off n k) v):∃a cap,v = .slice a n cap∧n≤cap∧cap≤maxLen∧(0 < n→∃g,μ id=some g∧a=some ⟨g,off,none⟩):=by
 cases h with|msl _ _ _ _ a cap h h2 h3=>exact ⟨a,cap,rfl,h2,h3,h⟩
theorem Rep.ep_inv {Φ:Imm} {μ:Nat→Option Nat} {cs:List PV} {off:Nat} {v:Value} (h:Rep Φ μ (.ep cs off) v):∃b o,∃us:Nat→Value,v = .pointer (some ⟨b,o+off,none⟩)∧(∀j,j < cs.length→Φ b (o+j)=some (us j))∧∀j c,cs[j]? = some c→Rep Φ μ c (us j):=by
 cases h with|ep _ _ b o us hp hr=>exact ⟨b,o,us,rfl,hp,hr⟩
theorem Rep.sl_inv {Φ:Imm} {μ:Nat→Option Nat} {n k:Nat} {cs:List PV} {own:Option TypeId} {v:Value} (h:Rep Φ μ (.sl n k cs own) v):∃a b off cap,∃us:Nat→Value,v = .slice a n cap∧n≤cap∧cap≤maxLen∧cs.length=n * k∧(0 < n→a=some ⟨b,off,none⟩) ∧
  (∀j,j < cs.length→Φ b (off+j)=some (us j))∧∀j c,cs[j]? = some c→Rep Φ μ c (us j):=by
 cases h with
 |sl0 _ _ a cap h=>exact ⟨a,0,0,cap,fun _=>Go.undef,rfl,Nat.zero_le _,h,by simp,fun h=>by omega,fun j hj=>by simp at hj,fun j c hj=>by simp at hj⟩
 |sl _ _ _ _ b off cap us h1 h2 h3 hp hr=>exact ⟨_,b,off,cap,us,rfl,h2,h3,h1,fun _=>rfl,hp,hr⟩
def PV.one:PV→Bool
 | .val _ | .nilsl | .sl .. | .ptr .. | .msl .. | .ep .. | .fn .. | .mref .. => true
 |_=>false
theorem Rep.one {Φ:Imm} {μ:Nat→Option Nat} {p:PV} {v:Value} (h:Rep Φ μ p v) (ho:p.one=true):v.oneCell' = true∧v.cells = #[v]:=by
 cases h with
 |val v h=>exact plainV_one h
 |undef=>simp [PV.one] at ho
 |agg=>simp [PV.one] at ho
 |tup=>simp [PV.one] at ho
 |fn f cs us hr=>
  obtain ⟨t1,p1,q1,e1⟩:=fnV_func f ((List.range cs.length).map us).toArray
  rw [e1];exact ⟨rfl,rfl⟩
 |_=>exact ⟨rfl,rfl⟩
def pv0:Value→PV
 | .slice none 0 0=>.nilsl
 |v=>if plainV v then .val v else .undef
def pvC:Value→PV
 | .agg cs=>.agg (cs.toList.map pv0)
 |v=>pv0 v
theorem rep_pv0 {Φ:Imm} {μ:Nat→Option Nat} (v:Value):Rep Φ μ (pv0 v) v:=by
 unfold pv0
 split
 ·exact .nilsl
 ·split
  ·exact .val _ ‹_›
  ·exact .undef _
theorem repL_pv0 {Φ:Imm} {μ:Nat→Option Nat} (vs:List Value):RepL Φ μ (vs.map pv0) vs:=by
 refine ⟨by simp,fun j c u h1 h2=>?_⟩
 rw [List.getElem?_map,h2] at h1
 simp at h1
 subst h1;exact rep_pv0 u
theorem rep_pvC {Φ:Imm} {μ:Nat→Option Nat} (v:Value):Rep Φ μ (pvC v) v:=by
 unfold pvC
 split
 ·rename_i cs
  exact (repL_pv0 cs.toList).agg
 ·exact rep_pv0 _
theorem pv0_own (v:Value):(pv0 v).ownB=false:=by
 unfold pv0
 split
 ·rfl
 ·split<;>rfl
theorem pvC_own (v:Value):(pvC v).ownB=false:=by
 unfold pvC
 split
 ·rfl
 ·exact pv0_own _
end
section
open Go.RowKit
variable {Φ0:Ent} {W:World} {M:Nat} {Φ:Imm} {μ:Nat→Option Nat} {ω:Nat→Option Who} {σ:PS} {a:Act} {w:World}
theorem RelG.grow (h:RelG Φ0 W M Φ μ ω σ a w) {Φ' : Imm} {w' : World} (hb:Kept (Old Φ0 W) W w') (himm:∀b o u,Φ' b o=some u→w'.cell? ⟨b,o,none⟩=some u) (hold:∀b o,Old Φ0 W b→Φ' b o=Φ b o) (hsub:∀b o u,Φ b o=some u→Φ' b o=some u)
  (hkeep:∀g p,ω g=some p→w'.heap[g]? = w.heap[g]?∧∀j,Φ' g j=Φ g j) (hsz:w.heap.size≤w'.heap.size):RelG Φ0 W M Φ' μ ω σ a w':=by
 have hown:∀p n k E v,OwnAt (Mine Φ0 W) Φ ω w p n k E v→OwnAt (Mine Φ0 W) Φ' ω w' p n k E v:=by
  intro p n k E v ho
  rcases ho with ho|⟨g,cap,cur,h1,h2,h3,h4,h5,h6,h7,h8⟩|ho
  rotate_left 2
  ·exact .inr (.inr ho)
  ·exact .inl ho
  ·obtain ⟨k1,k2⟩:=hkeep g _ h7
   exact .inr (.inl ⟨g,cap,cur,h1,h2,by rw [k1];exact h3,h4,h5,h6,h7,h8.1,fun j hj=>by rw [k2];exact h8.2 j hj⟩)
 refine ⟨hb,h.defers,h.size,himm,fun b o hbo=>(hold b o hbo).trans (h.old b o hbo),fun t=>(h.tmps t).mono hsub (fun _ _ e=>e),fun t n k cs E e=>hown _ _ _ _ _ (h.own t n k cs E e),fun id bs e=>?_,h.gone,fun g p e=>Nat.lt_of_lt_of_le (h.lt g p e) hsz,h.gmu,h.kmu,fun b o u e=>⟨hsub _ _ _ (h.ext b o u e).1,(h.ext b o u e).2⟩,fun id X e=>(h.map id X e).step hsub (fun _ _ e=>e) (fun q _ g e=>⟨(hkeep g q e).1,(hkeep g q e).2,e⟩),h.mine⟩
 obtain ⟨g,cur,T,h1,h2,h3,h4,h5,h6,h7⟩:=h.box id bs e
 obtain ⟨k1,k2⟩:=hkeep g _ h4
 refine ⟨g,cur,T,h1,by rw [k1];exact h2,h3,h4,fun j=>by rw [k2];exact h5 j,h6,fun j c hc=>?_⟩
 obtain ⟨u,r1,r2,r3,r4⟩:=h7 j c hc
 exact ⟨u,r1,r2,r3.mono hsub (fun _ _ e=>e),fun n k cs E e=>hown _ _ _ _ _ (r4 n k cs E e)⟩
theorem RelG.drew (h:RelG Φ0 W M Φ μ ω σ a w):RelG Φ0 W M Φ μ ω σ a w.drew:=
 h.grow h.below.drew h.imm (fun _ _ _=>rfl) (fun _ _ _ e=>e) (fun _ _ _=>⟨rfl,fun _=>rfl⟩) (Nat.le_refl _)
def immRow (Φ:Imm) (g:Nat) (cur:Array Value):Imm:=fun b o=>if b=g then cur[o]? else Φ b o
theorem RelG.fresh (h:RelG Φ0 W M Φ μ ω σ a w) {b o:Nat} {u:Value} (e:Φ b o=some u):b < w.heap.size:=World.block_lt_of_cell? _ _ (h.imm b o u e)
theorem cell_alloc_new (w:World) (cur:Array Value) (T:TypeId) (o:Nat):(w.alloc (.cells cur T)).cell? ⟨w.heap.size,o,none⟩=cur[o]?:=by
 have:=heap_alloc_new w (.cells cur T)
 simp only [World.cell?,this];simp
theorem cell_alloc_old (w:World) (ob:Obj) (b o:Nat) (h:b < w.heap.size):(w.alloc ob).cell? ⟨b,o,none⟩=w.cell? ⟨b,o,none⟩:=by
 simp only [World.cell?];rw [Below.heap_alloc w ob b h]
theorem RelG.row (h:RelG Φ0 W M Φ μ ω σ a w) (cur:Array Value) (T:TypeId):RelG Φ0 W M (immRow Φ w.heap.size cur) μ ω σ a (w.alloc (.cells cur T)):=by
 have hW:=h.below.size
 refine h.grow (h.below.alloc _) ?_ ?_ ?_ ?_ (by simp)
 ·intro b o u e
  unfold immRow at e
  split at e
  ·subst b;rw [cell_alloc_new];exact e
  ·have:=h.imm b o u e
   rw [cell_alloc_old _ _ _ _ (h.fresh e)];exact this
 ·intro b o hb;unfold immRow;rw [if_neg (by have:=hb.1;omega)]
 ·intro b o u e;unfold immRow;rw [if_neg (by have:=h.fresh e;omega)];exact e
 ·intro g p e
  have:=h.lt g p e
  exact ⟨Below.heap_alloc _ _ _ this,fun j=>by unfold immRow;rw [if_neg (by omega)]⟩
theorem RelG.newBox (h:RelG Φ0 W M Φ μ ω σ a w) {id:Nat} (hlow:id < 1000000) (hid:σ.b id=none) (hmid:σ.m id=none) {bs:List PV} {us:List Value} (hr:RepL Φ μ bs us) (hone:∀u∈us,u.oneCell' = true) (hno:∀c∈bs,c.ownB=false) (T:TypeId) :
  RelG Φ0 W M Φ (upd μ id (some w.heap.size)) (upd ω w.heap.size (some (.box id))) { σ with b:=upd σ.b id (some bs) } a (w.alloc (.cells us.toArray T)):=by
 have hW:=h.below.size
 have hμ:∀i g,μ i=some g→upd μ id (some w.heap.size) i=some g:=by
  intro i g e
  simp only [upd_if]
  rw [if_neg (by rintro rfl;rw [h.gone _ hid hmid] at e;cases e)];exact e
 have hω:∀g p,ω g=some p→upd ω w.heap.size (some (.box id)) g=some p:=by
  intro g p e
  simp only [upd_if];rw [if_neg (by have:=h.lt g p e;omega)];exact e
 have hown:∀p n k E v,OwnAt (Mine Φ0 W) Φ ω w p n k E v→OwnAt (Mine Φ0 W) Φ (upd ω w.heap.size (some (.box id))) (w.alloc (.cells us.toArray T)) p n k E v:=by
  intro p n k E v ho
  rcases ho with ho|⟨g,cap,cur,h1,h2,h3,h4,h5,h6,h7,h8⟩|ho
  rotate_left 2
  ·exact .inr (.inr ho)
  ·exact .inl ho
  ·exact .inr (.inl ⟨g,cap,cur,h1,h2,by rw [Below.heap_alloc _ _ _ (h.lt g _ h7)];exact h3,h4,h5,h6,hω _ _ h7,h8⟩)
 refine ⟨h.below.alloc _,h.defers,h.size,?_,h.old,fun t=>(h.tmps t).mono (fun _ _ _ e=>e) hμ,fun t n k cs E e=>hown _ _ _ _ _ (h.own t n k cs E e),?_,?_,?_,h.gmu,fun i g e hi=>?_,h.ext,fun i X e=>(h.map i X e).step (fun _ _ _ e=>e) hμ (fun q _ g e=>⟨Below.heap_alloc _ _ _ (h.lt g _ e),fun _=>rfl,hω _ _ e⟩),fun g p e=>?_⟩
 ·intro b o u e
  rw [cell_alloc_old _ _ _ _ (h.fresh e)];exact h.imm b o u e
 ·intro i bs' e
  by_cases hi:i=id
  ·subst hi
   simp only [upd_if,if_true] at e
   cases e
   refine ⟨w.heap.size,us.toArray,T,by simp [upd_if],heap_alloc_new w _, .inl hW,by simp [upd_if],?_,(by have:=hr.1;simp;omega),?_⟩
   ·intro j
    cases hj:Φ w.heap.size j with
    |none=>rfl
    |some u=>have:=h.fresh hj;omega
   ·intro j c hc
    obtain ⟨u,hu,hru⟩:=hr.get hc
    refine ⟨u,by simpa using hu,hone u (mem_of_get hu),hru.mono (fun _ _ _ e=>e) hμ,fun n k cs E e=>?_⟩
    have:=hno c (mem_of_get hc)
    rw [e] at this;simp [PV.ownB] at this
  ·simp only [upd_if,if_neg hi] at e
   obtain ⟨g,cur,T',h1,h2,h3,h4,h5,h6,h7⟩:=h.box i bs' e
   refine ⟨g,cur,T',hμ _ _ h1,by rw [Below.heap_alloc _ _ _ (h.lt g _ h4)];exact h2,h3,hω _ _ h4,h5,h6,fun j c hc=>?_⟩
   obtain ⟨u,r1,r2,r3,r4⟩:=h7 j c hc
   exact ⟨u,r1,r2,r3.mono (fun _ _ _ e=>e) hμ,fun n k cs E e=>hown _ _ _ _ _ (r4 n k cs E e)⟩
 ·intro i e em
  by_cases hi:i=id
  ·subst hi;simp [upd_if] at e
  ·simp only [upd_if,if_neg hi] at e ⊢; exact h.gone i e em
 ·intro g p e
  simp only [upd_if] at e
  split at e
  ·subst g;simp
  ·have:=h.lt g p e;simp;omega
 ·have hne:i≠id:=by have:=h.gmu i g e;omega
  simp only [upd_if,if_neg hne] at hi ⊢
  exact h.kmu i g e hi
 ·simp only [upd_if] at e
  split at e
  ·subst g;exact .inl hW
  ·exact h.mine g p e
theorem RelG.newMap (h:RelG Φ0 W M Φ μ ω σ a w) {id:Nat} (hlow:id < 1000000) (hid:σ.b id=none) (hmid:σ.m id=none) (X:PMap) (ob:Obj) (hX:match X with
   | .map es clock=>es = []∧ob = .map #[] clock
   | .iter mid since seen last=>∃gm,μ mid=some gm∧ob = .mapIter (some gm) since seen.toArray last) :
  RelG Φ0 W M Φ (upd μ id (some w.heap.size)) (upd ω w.heap.size (some (.box id))) { σ with m:=upd σ.m id (some X) } a (w.alloc ob):=by
 have hW:=h.below.size
 have hμ:∀i g,μ i=some g→upd μ id (some w.heap.size) i=some g:=by
  intro i g e
  simp only [upd_if]
  rw [if_neg (by rintro rfl;rw [h.gone _ hid hmid] at e;cases e)];exact e
 have hω:∀g p,ω g=some p→upd ω w.heap.size (some (.box id)) g=some p:=by
  intro g p e
  simp only [upd_if];rw [if_neg (by have:=h.lt g p e;omega)];exact e
 have hk:∀S,KeptBy S Φ Φ ω (upd ω w.heap.size (some (.box id))) w (w.alloc ob):=fun S q _ g e=>⟨Below.heap_alloc _ _ _ (h.lt g _ e),fun _=>rfl,hω _ _ e⟩
 refine ⟨h.below.alloc _,h.defers,h.size,?_,h.old,fun t=>(h.tmps t).mono (fun _ _ _ e=>e) hμ,fun t n k cs E e=>(h.own t n k cs E e).step (fun g e=>hk (fun _=>True) _ trivial g e),fun i bs e=>(h.box i bs e).step (fun _ _ _ e=>e) hμ (hk _),?_,?_,h.gmu,fun i g e hi=>?_,h.ext,fun i X' e=>?_,fun g p e=>?_⟩
 ·intro b o u e
  rw [cell_alloc_old _ _ _ _ (h.fresh e)];exact h.imm b o u e
 ·intro i e em
  by_cases hi:i=id
  ·subst hi;simp [upd_if] at em
  ·simp only [upd_if,if_neg hi] at em ⊢; exact h.gone i e em
 ·intro g p e
  simp only [upd_if] at e
  split at e
  ·subst g;simp
  ·have:=h.lt g p e;simp;omega
 ·have hne:i≠id:=by have:=h.gmu i g e;omega
  simp only [upd_if,if_neg hne] at hi ⊢
  exact h.kmu i g e hi
 ·by_cases hi:i=id
  ·subst hi
   simp only [upd_if,if_true] at e
   cases e
   refine ⟨w.heap.size,by simp [upd_if], .inl hW,by simp [upd_if],fun j=>?_,?_⟩
   ·cases hj:Φ w.heap.size j with
    |none=>rfl
    |some u=>have:=h.fresh hj;omega
   ·cases X with
    |map es clock=>
     obtain ⟨rfl,rfl⟩:=hX
     exact ⟨⟨by simp,by simp⟩,#[],heap_alloc_new w _,rfl,fun j s k c hj=>by simp at hj⟩
    |iter mid since seen last=>
     obtain ⟨gm,e1,rfl⟩:=hX
     exact ⟨gm,hμ _ _ e1,heap_alloc_new w _⟩
  ·simp only [upd_if,if_neg hi] at e
   exact (h.map i X' e).step (fun _ _ _ e=>e) hμ (hk _)
 ·simp only [upd_if] at e
  split at e
  ·subst g;exact .inl hW
  ·exact h.mine g p e
end
section
open Go.RowKit
inductive TD where
 |int (k:IntKind)|bool|str
 |slice (e:TypeId) (k by_:Nat) (zero:List PV)
 |struct (fs:List (Nat×Nat×Bool))
 |arr (n:Nat) (e:TypeId) (k:Nat) (agg:Bool)
 |parr (n:Nat) (e:TypeId) (k:Nat)
 |ptr|func|map (k e:TypeId)
 |other
inductive SK where
 |int|bool|str
 deriving DecidableEq
structure TyI where
 size:Nat
 agg:Bool
 kind:TD
 zero:List PV
 eqs:List SK
def aggD:TypeDesc→Bool
 | .struct _ | .array _ _=>true
 |_=>false
def tdOf (P:Program):TypeDesc→TD
 | .int k=>.int k
 | .bool=>.bool
 | .string=>.str
 | .slice e=>match P.info? e with
  |some i=>match i.zero with
   |some z=>if z.cells.toList.length=i.size∧0 < i.size∧z.cells.toList.all (·.oneCell') then .slice e i.size i.bytes (z.cells.toList.map pv0) else .other
   |none=>.other
  |none=>.other
 | .struct fs=>match fs.toList.mapM (m:=Option) (fun f=>match P.info? f.type,P.underlying f.type with|some i,some d=>some (f.offset,i.size,aggD d)|_,_=>none) with
  |some l=>.struct l
  |none=>.other
 | .array n e=>match P.info? e,P.underlying e with
  |some i,some d=>.arr n e i.size (aggD d)
  |_,_=>.other
 | .pointer t=>match P.underlying t with
  |some (.array n e)=>match P.info? e with
   |some i=>.parr n e i.size
   |none=>.other
  |some _=>.ptr
  |none=>.other
 | .func _ _ _=>.func
 | .map k e=>.map k e
 |_=>.other
def skOf (P:Program) (t:TypeId):Option SK:=match P.underlying t,P.info? t with
 |some (.int _),some i=>if i.size=1 then some .int else none
 |some .bool,some i=>if i.size=1 then some .bool else none
 |some .string,some i=>if i.size=1 then some .str else none
 |_,_=>none
def eqsD (P:Program):Nat→TypeId→Option (List SK)
 |0,_=>none
 |d+1,t=>match skOf P t with
  |some k=>some [k]
  |none=>match P.underlying t,P.info? t with
   |some (.struct fs),some i=>if P.stoodInHeld t=false then
     match fs.toList.foldr (fun f acc=>match acc with
      |some (off,l)=>if f.name ≠ "_" then match eqsD P d f.type with
       |some m=>if f.offset+m.length=off then some (f.offset,m ++ l) else none
       |none=>none else none
      |none=>none) (some (i.size,[])) with
     |some (0,l)=>if l.length=i.size then some l else none
     |_=>none
    else none
   |some (.array n e),some i=>match eqsD P d e,P.info? e with
    |some l,some ie=>if l.length=ie.size∧i.size=n * ie.size then some ((List.replicate n l).flatten) else none
    |_,_=>none
   |_,_=>none
def eqsOf (P:Program) (t:TypeId):List SK:=match P.underlying t with
 |some (.struct _)=>if P.eqGuardType P.depth t=false then (eqsD P 6 t).getD [] else []
 |some (.array _ _)=>if P.eqGuardType P.depth t=false then (eqsD P 6 t).getD [] else []
 |_ => []
def isAggV:Value→Bool
 | .agg _=>true
 |_=>false
def tyI (P:Program) (t:TypeId):Option TyI:=
 match P.info? t,P.underlying t with
 |some i,some d=>match i.zero with
  |some z=>if z.cells.toList.length=i.size∧z.cells.toList.all (·.oneCell')∧isAggV z=aggD d then some ⟨i.size,aggD d,tdOf P d,z.cells.toList.map pv0,eqsOf P t⟩ else none
  |none=>none
 |_,_=>none
def tabOf (P:Program):List (Option TyI):=(List.range P.types.size).map (tyI P)
theorem tyTab_get {P:Program} {T:List (Option TyI)} (hT:T=tabOf P) {t:TypeId} {x:TyI} (h:T[t]? = some (some x)):tyI P t=some x:=by
 subst hT
 rw [tabOf,List.getElem?_map] at h
 by_cases ht:t < P.types.size
 ·simpa [ht] using h
 ·simp [ht] at h
theorem tyI_parts {P:Program} {t:TypeId} {x:TyI} (h:tyI P t=some x):∃i d z,P.info? t=some i∧P.underlying t=some d∧i.zero=some z∧z.cells.size=i.size∧(∀c∈z.cells.toList,c.oneCell' = true)∧x=⟨i.size,aggD d,tdOf P d,z.cells.toList.map pv0,eqsOf P t⟩:=by
 unfold tyI at h
 split at h
 ·rename_i i d h1 h2
  split at h
  ·rename_i z h3
   split at h
   ·rename_i h4
    exact ⟨i,d,z,h1,h2,h3,by simpa using h4.1,fun c hc=>List.all_eq_true.1 h4.2.1 c hc,by simpa using h.symm⟩
   ·cases h
  ·cases h
 ·cases h
theorem tyI_agg {P:Program} {t:TypeId} {x:TyI} (h:tyI P t=some x):∃i z,P.info? t=some i∧i.zero=some z∧isAggV z=x.agg∧x.zero=z.cells.toList.map pv0:=by
 unfold tyI at h
 split at h
 ·rename_i i d h1 h2
  split at h
  ·rename_i z h3
   split at h
   ·rename_i h4
    cases h
    exact ⟨i,z,h1,h3,h4.2.2,rfl⟩
   ·cases h
  ·cases h
 ·cases h
theorem run_isAgg {P:Program} {t:TypeId} {d:TypeDesc} (h:P.underlying t=some d) (w:World):(isAgg t).run P w = .ok (aggD d) w:=by
 unfold isAgg
 simp only [Sem.run_bind,run_underlying h,Result.andThen_ok]
 cases d<;>simp [aggD]
theorem run_size {P:Program} {t:TypeId} {i:TypeInfo} (h:P.info? t=some i) (w:World):(sizeOf t).run P w = .ok i.size w:=by
 simp [sizeOf,typeInfo,h]
def pev (σ:PS):Operand→PV
 | .tmp t=>(σ.t t).bare
 | .const v=>pvC v
 | .func f=>cond (Nat.blt f 1000000) (.fn f []) .undef
 | .global g=>globPV g globTab
end
section
open Go.RowKit
variable {Φ0:Ent} {W:World} {M:Nat} {Φ:Imm} {μ:Nat→Option Nat} {ω:Nat→Option Who} {σ:PS} {a:Act} {w:World}
theorem RelG.ev (h:RelG Φ0 W M Φ μ ω σ a w) (x:Operand):Rep Φ μ (pev σ x) (a.eval x):=by
 cases x with
 |tmp t=>exact (h.tmps t).bare
 |const v=>exact rep_pvC v
 |func f=>
  simp only [pev]
  cases hb:Nat.blt f 1000000 with
  |false=>exact .undef _
  |true=>
   have h1:=(RepL.nil (Φ:=Φ) (μ:=μ)).fn f
   have hlt:f < 1000000:=by simpa [Nat.blt_eq] using hb
   unfold fnV at h1
   rw [if_pos hlt] at h1
   exact h1
 |global g=>exact globPV_rep globTab fun x hx j z e=>(h.ext _ _ _ (Φ0.glob x hx j z e)).1
theorem pev_own (σ:PS) (x:Operand):(pev σ x).ownB=false:=by
 cases x with
 |tmp t=>exact PV.bare_own _
 |const v=>exact pvC_own v
 |func f=>
  show (cond (Nat.blt f 1000000) (PV.fn f []) .undef).ownB=false
  cases Nat.blt f 1000000<;>rfl
 |global g=>exact globPV_own g _
end
section
open Go.RowKit
def asVal (agg:Bool) (k:Nat) (cs:List PV) (off:Nat):Option PV:=
 if agg then (if off+k≤cs.length then some (.agg (((cs.drop off).take k).map PV.bare)) else none) else (cs[off]?).map PV.bare
def ploadAt (x:TyI) (b:Nat→Option (List PV)):PV→Option PV
 | .ptr id off=>match b id with
  |some bs=>asVal x.agg x.size bs off
  |none=>none
 | .ep cs off=>asVal x.agg x.size cs off
 |_=>none
end
section
open Go.RowKit
variable {Φ0:Ent} {W:World} {M:Nat} {Φ:Imm} {μ:Nat→Option Nat} {ω:Nat→Option Who} {σ:PS} {a:Act} {w:World} {P:Program}
theorem load_cells {cs:List PV} {off b o:Nat} {us:Nat→Value} {t:TypeId} {x:TyI} {p:PV} (ht:tyI P t=some x) (hc:∀j,j < cs.length→w.cell? ⟨b,o+j,none⟩=some (us j)) (hr:∀j c,cs[j]? = some c→Rep Φ μ c (us j)) (hp:asVal x.agg x.size cs off=some p) :
  ∃v,(loadVar t ⟨b,o+off,none⟩).run P w = .ok v w∧Rep Φ μ p v∧p.ownB=false:=by
 obtain ⟨i,d,z,h1,h2,h3,h4,-,rfl⟩:=tyI_parts ht
 simp only [asVal] at hp
 unfold loadVar
 simp only [Sem.run_bind,run_isAgg h2,Result.andThen_ok]
 split at hp
 ·rename_i hagg
  split at hp
  ·rename_i hle
   cases hp
   simp only [hagg,if_true,Sem.run_bind,run_size h1,Result.andThen_ok]
   have hlen:((List.range i.size).map (fun j=>us (off+j))).length=i.size:=by simp
   have:=(run_loadCells_list (P:=P) (w:=w) ⟨b,o+off,none⟩ ((List.range i.size).map (fun j=>us (off+j))) (by
    intro j v hj
    simp only [List.getElem?_map] at hj
    obtain ⟨j',hj',rfl⟩:=Option.map_eq_some_iff.1 hj
    have hlt:j < i.size:=by
     have:=(List.getElem?_eq_some_iff.1 hj').1
     simpa using this
    simp [hlt] at hj'
    subst hj'
    rw [Addr.add_lit,Nat.add_assoc]
    exact hc (off+j) (by omega)))
   rw [hlen] at this
   rw [this]
   refine ⟨_,rfl,?_,rfl⟩
   have:RepL Φ μ (((cs.drop off).take i.size).map PV.bare) ((List.range i.size).map (fun j=>us (off+j))):=by
    refine ⟨by simp;omega,fun j c u hj hu=>?_⟩
    simp only [List.getElem?_map] at hj hu
    obtain ⟨c',hc',rfl⟩:=Option.map_eq_some_iff.1 hj
    obtain ⟨j',hj',rfl⟩:=Option.map_eq_some_iff.1 hu
    have hlt:j < i.size:=by
     have:=(List.getElem?_eq_some_iff.1 hj').1
     simpa using this
    simp [hlt] at hj'
    subst hj'
    rw [List.getElem?_take,if_pos hlt,List.getElem?_drop] at hc'
    exact (hr _ _ hc').bare
   exact this.agg
  ·cases hp
 ·rename_i hagg
  obtain ⟨c,hc',rfl⟩:=Option.map_eq_some_iff.1 hp
  have hagg' : aggD d=false:=by simpa using hagg
  simp only [hagg',Bool.false_eq_true,if_false]
  have hlt:=(List.getElem?_eq_some_iff.1 hc').1
  refine ⟨us off,?_,(hr off c hc').bare,PV.bare_own _⟩
  simp [hc off hlt]
theorem RelG.load (h:RelG Φ0 W M Φ μ ω σ a w) {t:TypeId} {x:TyI} (ht:tyI P t=some x) {q p:PV} {v:Value} (hv:Rep Φ μ q v) (hp:ploadAt x σ.b q=some p):∃u,(Instr.loadAt t v).run P w = .ok u w∧Rep Φ μ p u∧p.ownB=false:=by
 cases q with
 |ptr id off=>
  obtain ⟨g,hg,rfl⟩:=hv.ptr_inv
  simp only [ploadAt] at hp
  split at hp
  ·rename_i bs hbs
   obtain ⟨g',cur,T,k1,k2,k3,k4,k5,k6,k7⟩:=h.box id bs hbs
   rw [hg] at k1;cases k1
   have:=load_cells (P:=P) (w:=w) (Φ:=Φ) (μ:=μ) (cs:=bs) (off:=off) (b:=g) (o:=0) (us:=fun j=>cur.getD j undef) ht (by
    intro j hj
    have:w.cell? ⟨g,0+j,none⟩=cur[j]?:=by simp [World.cell?,k2]
    rw [this,Array.getElem?_eq_getElem (by omega)]
    have hjc:j < cur.size:=by omega
    simp [Array.getD,hjc]) (by
    intro j c hc
    obtain ⟨u,r1,r2,r3,-⟩:=k7 j c hc
    have:cur.getD j undef=u:=by simp [Array.getD_eq_getD_getElem?,r1]
    rw [this];exact r3) hp
   obtain ⟨u,r1,r2,r3⟩:=this
   refine ⟨u,?_,r2,r3⟩
   simpa [Instr.loadAt,Instr.sureAddr] using r1
  ·cases hp
 |ep cs off=>
  obtain ⟨b,o,us,rfl,h1,h2⟩:=hv.ep_inv
  obtain ⟨u,r1,r2,r3⟩:=load_cells (P:=P) (w:=w) (off:=off) ht (fun j hj=>h.imm _ _ _ (h1 j hj)) h2 hp
  refine ⟨u,?_,r2,r3⟩
  simpa [Instr.loadAt,Instr.sureAddr] using r1
 |_=>simp [ploadAt] at hp
end
section
theorem getGo_leb (rest:List Int):∀(q k:Nat) (acc:Int),k≤9→(q:Int) * 2 ^ (7 * k) < 18446744073709551616→(0 < k→q≠0) →
  getGo (leb q ++ rest) k acc=(unzig (acc+q * 2 ^ (7 * k)),((k+(leb q).length:Nat):Int),0):=by
 intro q
 induction q using Nat.strongRecOn with
 |_ q ih=>
  intro k acc hk hq h0
  have hp:(0:Int) < 2 ^ (7 * k):=Int.pow_pos (by decide)
  by_cases g:q < 128
  ·rw [leb_small q g]
   have h9:k=9→(q:Int)≤1:=by
    intro e;subst e
    have e2:(2:Int) ^ (7 * 9)=9223372036854775808:=by decide
    rw [e2] at hq;omega
   rw [List.cons_append,List.nil_append,getGo,if_neg (by
    rintro (⟨h1,h2⟩|⟨h1,h2⟩)
    ·have:=h9 h1;omega
    ·have:=h0 h1;omega),if_pos (by omega),show (q:Int) % 128=q by omega]
   simp
  ·rw [leb_big q (by omega),List.cons_append,getGo]
   have hk8:k≤8:=by
    by_cases e:k=9
    ·subst e
     have e2:(2:Int) ^ (7 * 9)=9223372036854775808:=by decide
     rw [e2] at hq;omega
    ·omega
   rw [if_neg (by omega),if_neg (by omega)]
   have e1:((q % 128+128:Nat):Int) % 128=((q % 128:Nat):Int):=by omega
   have e7:(2:Int) ^ (7 * (k+1))=128 * 2 ^ (7 * k):=pow7 k
   have e8:((q / 128:Nat):Int) * (128 * 2 ^ (7 * k))=(((q / 128) * 128:Nat):Int) * 2 ^ (7 * k):=by
    rw [←Int.mul_assoc];simp
   have hle:(((q / 128) * 128:Nat):Int) * 2 ^ (7 * k)≤(q:Int) * 2 ^ (7 * k):=Int.mul_le_mul_of_nonneg_right (by omega) (by omega)
   rw [e1,ih (q / 128) (by omega) (k+1) _ (by omega) (by rw [e7,e8];omega) (by omega)]
   have e9:acc+((q % 128:Nat):Int) * 2 ^ (7 * k)+((q / 128:Nat):Int) * 2 ^ (7 * (k+1))=acc+(q:Int) * 2 ^ (7 * k):=by
    rw [e7,e8,Int.add_assoc,←Int.add_mul]
    congr 2;omega
   rw [e9,List.length_cons]
   congr 2;omega
theorem getI_intB (n:Int) (rest:List Int) (h1 : -9223372036854775808≤n) (h2:n≤9223372036854775807):getI (intB n ++ rest)=(n,((intB n).length:Int),0):=by
 have hz:=zig_lt n h1 h2
 rw [getI,intB,getGo_leb rest (zig n) 0 0 (by omega) (by simp;omega) (by omega)]
 simp [unzig_zig]
theorem getN_flat:∀(ds:List Int),(∀z∈ds,-9223372036854775808≤z∧z≤9223372036854775807)→∀rest,getN ds.length ((ds.map intB).flatten ++ rest)=(ds,(((ds.map intB).flatten).length:Int),0)
 | [],_,rest=>rfl
 |d :: r,h,rest=>by
  have hd:=h d (by simp)
  have ih:=getN_flat r (fun z hz=>h z (by simp [hz])) rest
  simp only [List.map_cons,List.flatten_cons,List.length_cons,List.append_assoc]
  rw [getN,getI_intB d _ hd.1 hd.2]
  simp only [ne_eq,not_true_eq_false,if_false,Int.toNat_natCast,List.drop_left]
  rw [ih]
  simp
theorem flat_ge:∀(ds:List Int),ds.length≤((ds.map intB).flatten).length
 | []=>by simp
 |d :: r=>by
  have:=flat_ge r
  have:=leb_pos (zig d)
  simp only [List.map_cons,List.flatten_cons,List.length_append,List.length_cons]
  have e:(intB d).length=(leb (zig d)).length:=rfl
  omega
theorem unzig_nat (q:Nat):zig (unzig q)=q:=by unfold zig unzig;split<;>split<;>omega
theorem getGo_back:∀(l:List Int) (k:Nat) (acc:Int) (x u:Int),(∀c∈l,0≤c∧c < 256)→getGo l k acc=(x,u,0) →
  ∃q m:Nat,u=((k+m:Nat):Int)∧l.take m=leb q∧x=unzig (acc+q * 2 ^ (7 * k))∧(0 < k→q≠0)
 | [],k,acc,x,u,_,h=>by simp [getGo] at h
 |c :: r,k,acc,x,u,hby,h=>by
  obtain ⟨c0,c1⟩:=hby c (by simp)
  rw [getGo] at h
  by_cases g:(k=9∧1 < c)∨(0 < k∧c=0)
  ·rw [if_pos g] at h;simp at h
  ·rw [if_neg g] at h
   by_cases g2:c < 128
   ·rw [if_pos g2] at h
    simp only [Prod.mk.injEq,and_true] at h
    obtain ⟨rfl,rfl⟩:=h
    refine ⟨c.toNat,1,by simp,?_,?_,fun hk=>by omega⟩
    ·rw [leb_small _ (by omega)];simp;omega
    ·rw [show (c.toNat:Int)=c % 128 by omega]
   ·rw [if_neg g2] at h
    obtain ⟨q,m,h1,h2,h3,h4⟩:=getGo_back r (k+1) _ x u (fun d hd=>hby d (by simp [hd])) h
    refine ⟨(c - 128).toNat+128 * q,m+1,by rw [h1];omega,?_,?_,fun _=>by have:=h4 (by omega);omega⟩
    ·have:=h4 (by omega)
     rw [leb_big _ (by omega),List.take_succ_cons,h2]
     congr 1
     ·omega
     ·congr 1;omega
    ·rw [h3,pow7]
     congr 1
     have e1:c % 128=((c - 128).toNat:Int):=by omega
     rw [e1,Int.add_assoc]
     congr 1
     rw [show (((c - 128).toNat+128 * q:Nat):Int)=((c - 128).toNat:Int)+(q:Int) * 128 by omega,Int.add_mul,Int.mul_assoc]
theorem getI_back (l:List Int) (x u:Int) (hby:∀c∈l,0≤c∧c < 256) (h:getI l=(x,u,0)):l.take u.toNat=intB x:=by
 obtain ⟨q,m,h1,h2,h3,_⟩:=getGo_back l 0 0 x u hby h
 rw [h1,h3]
 simp only [Nat.zero_add,Int.toNat_natCast,Nat.mul_zero,Int.pow_zero,Int.mul_one,Int.zero_add,intB,unzig_nat]
 exact h2
theorem getN_back:∀(n:Nat) (l ds:List Int) (u:Int),(∀c∈l,0≤c∧c < 256)→getN n l=(ds,u,0)→l.take u.toNat=(ds.map intB).flatten∧ds.length=n∧0≤u∧u≤l.length
 |0,l,ds,u,_,h=>by
  simp only [getN,Prod.mk.injEq,and_true] at h
  obtain ⟨rfl,rfl⟩:=h
  simp
 |n+1,l,ds,u,hby,h=>by
  rw [getN] at h
  obtain ⟨x,v,e,hr⟩:∃x v e,getI l=(x,v,e):=⟨_,_,_,rfl⟩
  have ok:=getI_ok l hby
  rw [hr] at h ok
  simp only at h ok
  by_cases g:e≠0
  ·rw [if_pos g] at h
   simp only [Prod.mk.injEq] at h
   exact absurd h.2.2 g
  ·rw [if_neg g] at h
   have g' : e=0:=by simpa using g
   subst g'
   obtain ⟨o1,o2,_,_⟩:=ok rfl
   obtain ⟨d2,u2,e2,hr2⟩:∃p s t,getN n (l.drop v.toNat)=(p,s,t):=⟨_,_,_,rfl⟩
   rw [hr2] at h
   simp only at h
   by_cases g2:e2≠0
   ·rw [if_pos g2] at h
    simp only [Prod.mk.injEq] at h
    exact absurd h.2.2 g2
   ·rw [if_neg g2] at h
    have g2' : e2=0:=by simpa using g2
    subst g2'
    simp only [Prod.mk.injEq,and_true] at h
    obtain ⟨rfl,rfl⟩:=h
    obtain ⟨i1,i2,i3,i4⟩:=getN_back n (l.drop v.toNat) d2 u2 (fun c hc=>hby c (List.mem_of_mem_drop hc)) hr2
    have hb:=getI_back l x v hby hr
    rw [List.length_drop] at i4
    refine ⟨?_,by simp [i2],by omega,by omega⟩
    rw [show (v+u2).toNat=v.toNat+u2.toNat by omega,List.take_add,hb,i1]
    simp
def bytesL (s:ByteArray):List Int:=s.data.toList.map fun b=>(b.toNat:Int)
def strOf (bs:List Int):ByteArray:=bs.foldl (fun r n=>r.push (UInt8.ofNat n.toNat)) ByteArray.empty
theorem bytesL_len (s:ByteArray):(bytesL s).length=s.size:=by simp [bytesL]
theorem bytesL_byte (s:ByteArray):∀c∈bytesL s,0≤c∧c < 256:=by
 intro c hc
 obtain ⟨b,_,rfl⟩:=List.mem_map.1 hc
 have:=b.toNat_lt
 omega
theorem foldl_push:∀(bs:List Int) (r:ByteArray),(bs.foldl (fun r n=>r.push (UInt8.ofNat n.toNat)) r).data.toList=r.data.toList ++ bs.map (fun n=>UInt8.ofNat n.toNat)
 | [],r=>by simp
 |b :: bs,r=>by
  rw [List.foldl_cons,foldl_push bs]
  simp [ByteArray.push]
theorem strOf_data (bs:List Int):(strOf bs).data.toList=bs.map (fun n=>UInt8.ofNat n.toNat):=by
 rw [strOf,foldl_push];rfl
theorem strOf_size (bs:List Int):(strOf bs).size=bs.length:=by
 have:=congrArg List.length (strOf_data bs)
 simpa using this
theorem bytesL_strOf (bs:List Int) (h:∀c∈bs,0≤c∧c < 256):bytesL (strOf bs)=bs:=by
 rw [bytesL,strOf_data,List.map_map]
 have:∀c∈bs,((fun b:UInt8=>(b.toNat:Int)) ∘ fun n:Int=>UInt8.ofNat n.toNat) c=c:=by
  intro c hc
  have:=h c hc
  simp only [Function.comp,UInt8.toNat_ofNat']
  omega
 rw [List.map_congr_left this,List.map_id']
theorem ba_ext {a b:ByteArray} (h:a.data.toList=b.data.toList):a=b:=by
 cases a with|mk x=>cases b with|mk y=>cases x;cases y;simp at h;subst h;rfl
theorem strOf_bytesL (s:ByteArray):strOf (bytesL s)=s:=by
 apply ba_ext
 rw [strOf_data,bytesL,List.map_map]
 have:∀b∈s.data.toList,((fun n:Int=>UInt8.ofNat n.toNat) ∘ fun b:UInt8=>(b.toNat:Int)) b=b:=by
  intro b _
  simp
 rw [List.map_congr_left this,List.map_id']
theorem strOf_inj {a b:List Int} (ha:∀c∈a,0≤c∧c < 256) (hb:∀c∈b,0≤c∧c < 256) (h:strOf a=strOf b):a=b:=by
 rw [←bytesL_strOf a ha,←bytesL_strOf b hb,h]
def strB (s:ByteArray):List Int:=intB s.size ++ bytesL s
def strsB (l:List ByteArray):List Int:=intB l.length ++ (l.map strB).flatten
def SmallStrs (l:List ByteArray):Prop:=∀s∈l,s.size≤1000000
theorem strB_len (s:ByteArray) (h:s.size≤1000000):1≤(strB s).length∧(strB s).length≤1000010:=by
 have:=intB_len s.size (by omega) (by omega)
 rw [strB,List.length_append,bytesL_len];omega
theorem strs_len (l:List ByteArray) (h:SmallStrs l):((l.map strB).flatten).length≤1000010 * l.length:=by
 induction l with
 |nil=>simp
 |cons a r ih=>
  have h1:=strB_len a (h a (by simp))
  have h2:=ih (fun z hz=>h z (by simp [hz]))
  simp only [List.map_cons,List.flatten_cons,List.length_append,List.length_cons]
  omega
theorem strs_take (l:List ByteArray) (k:Nat) (a:ByteArray) (h:l[k]? = some a):((l.take (k+1)).map strB).flatten=((l.take k).map strB).flatten ++ strB a:=by
 rw [List.take_add_one,h];simp
def getS (bs:List Int):ByteArray×Int×Int:=
 if (lenL bs 1).2.2≠0 then (ByteArray.empty,0,(lenL bs 1).2.2)
 else (strOf ((bs.drop (lenL bs 1).2.1.toNat).take (lenL bs 1).1.toNat),(lenL bs 1).2.1+(lenL bs 1).1,0)
theorem getS_ok (bs:List Int) (hby:∀c∈bs,0≤c∧c < 256) (h:(getS bs).2.2=0):1≤(getS bs).2.1∧(getS bs).2.1≤bs.length:=by
 unfold getS at *
 have ok:=lenL_ok bs 1 hby
 split at h
 ·rename_i g;exact absurd h g
 ·rename_i g
  rw [if_neg g]
  have:=ok (by simpa using g)
  rw [Int.ediv_one] at this
  simp only
  omega
def getNS:Nat→List Int→List ByteArray×Int×Int
 |0,_=>([],0,0)
 |n+1,bs=>
  if (getS bs).2.2≠0 then ([],0,(getS bs).2.2)
  else if (getNS n (bs.drop (getS bs).2.1.toNat)).2.2≠0 then ([],0,(getNS n (bs.drop (getS bs).2.1.toNat)).2.2)
  else ((getS bs).1 :: (getNS n (bs.drop (getS bs).2.1.toNat)).1,(getS bs).2.1+(getNS n (bs.drop (getS bs).2.1.toNat)).2.1,0)
def andThenS (out:List ByteArray) (at_:Int) (s:List ByteArray×Int×Int):List ByteArray×Int×Int:=
 if s.2.2≠0 then ([],0,s.2.2) else (out ++ s.1,at_+s.2.1,0)
def getStrs (bs:List Int):List ByteArray×Int×Int:=
 if (lenL bs 1).2.2≠0 then ([],0,(lenL bs 1).2.2) else andThenS [] (lenL bs 1).2.1 (getNS (lenL bs 1).1.toNat (bs.drop (lenL bs 1).2.1.toNat))
theorem andThenS_err (out:List ByteArray) (at_:Int) (n:Nat) (bs:List Int) (r:ByteArray×Int×Int) (hr:getS bs=r) (h:r.2.2≠0):andThenS out at_ (getNS (n+1) bs)=([],0,r.2.2):=by
 subst hr
 simp [andThenS,getNS,h]
theorem andThenS_step (out:List ByteArray) (at_:Int) (n:Nat) (bs:List Int) (r:ByteArray×Int×Int) (hr:getS bs=r) (h:r.2.2=0) :
  andThenS out at_ (getNS (n+1) bs)=andThenS (out ++ [r.1]) (at_+r.2.1) (getNS n (bs.drop r.2.1.toNat)):=by
 subst hr
 by_cases g:(getNS n (bs.drop (getS bs).2.1.toNat)).2.2=0
 ·simp [andThenS,getNS,h,g];omega
 ·simp [andThenS,getNS,h,g]
theorem andThenS_done (out:List ByteArray) (at_:Int) (bs:List Int):andThenS out at_ (getNS 0 bs)=(out,at_,0):=by simp [andThenS,getNS]
theorem lenL_at (n:Nat) (rest:List Int) (hn:n≤1000000000000) (h:n≤rest.length):lenL (intB n ++ rest) 1=((n:Int),((intB n).length:Int),0):=by
 have h0:=getI_intB n rest (by omega) (by omega)
 rw [lenL,h0]
 simp only [ne_eq,not_true_eq_false,if_false]
 rw [if_neg (by omega),if_neg (by rw [List.length_append,Int.ediv_one];omega)]
theorem getInts_rest (ds rest:List Int) (h:∀z∈ds,-9223372036854775808≤z∧z≤9223372036854775807) (hl:ds.length≤1000000000000):getInts (intsB ds ++ rest)=(ds,((intsB ds).length:Int),0):=by
 have hg:=flat_ge ds
 have hL:lenL (intsB ds ++ rest) 1=((ds.length:Int),((intB ds.length).length:Int),0):=by
  rw [intsB,List.append_assoc];exact lenL_at _ _ hl (by rw [List.length_append];omega)
 rw [getInts,hL]
 simp only [ne_eq,not_true_eq_false,if_false,Int.toNat_natCast]
 have e:(intsB ds ++ rest).drop (intB ds.length).length=(ds.map intB).flatten ++ rest:=by rw [intsB,List.append_assoc,List.drop_left]
 rw [e,getN_flat ds h rest,andThen]
 simp [intsB]
theorem getS_strB (s:ByteArray) (rest:List Int) (h:s.size≤1000000):getS (strB s ++ rest)=(s,((strB s).length:Int),0):=by
 have hL:lenL (strB s ++ rest) 1=((s.size:Int),((intB s.size).length:Int),0):=by
  rw [strB,List.append_assoc];exact lenL_at _ _ (by omega) (by rw [List.length_append,bytesL_len];omega)
 rw [getS,hL]
 simp only [ne_eq,not_true_eq_false,if_false,Int.toNat_natCast]
 have e:((strB s ++ rest).drop (intB s.size).length).take s.size=bytesL s:=by
  rw [strB,List.append_assoc,List.drop_left,List.take_left' (bytesL_len s)]
 rw [e,strOf_bytesL]
 simp [strB,bytesL_len]
theorem getNS_flat:∀(l:List ByteArray),SmallStrs l→∀rest,getNS l.length ((l.map strB).flatten ++ rest)=(l,(((l.map strB).flatten).length:Int),0)
 | [],_,rest=>rfl
 |d :: r,h,rest=>by
  have hd:=h d (by simp)
  have ih:=getNS_flat r (fun z hz=>h z (by simp [hz])) rest
  simp only [List.map_cons,List.flatten_cons,List.length_cons,List.append_assoc]
  rw [getNS,getS_strB d _ hd]
  simp only [ne_eq,not_true_eq_false,if_false,Int.toNat_natCast,List.drop_left]
  rw [ih]
  simp
theorem strs_ge (l:List ByteArray) (h:SmallStrs l):l.length≤((l.map strB).flatten).length:=by
 induction l with
 |nil=>simp
 |cons a r ih=>
  have h1:=strB_len a (h a (by simp))
  have h2:=ih (fun z hz=>h z (by simp [hz]))
  simp only [List.map_cons,List.flatten_cons,List.length_append,List.length_cons]
  omega
theorem getStrs_rest (l:List ByteArray) (rest:List Int) (h:SmallStrs l) (hl:l.length≤1000000000000):getStrs (strsB l ++ rest)=(l,((strsB l).length:Int),0):=by
 have hg:=strs_ge l h
 have hL:lenL (strsB l ++ rest) 1=((l.length:Int),((intB l.length).length:Int),0):=by
  rw [strsB,List.append_assoc];exact lenL_at _ _ hl (by rw [List.length_append];omega)
 rw [getStrs,hL]
 simp only [ne_eq,not_true_eq_false,if_false,Int.toNat_natCast]
 have e:(strsB l ++ rest).drop (intB l.length).length=(l.map strB).flatten ++ rest:=by rw [strsB,List.append_assoc,List.drop_left]
 rw [e,getNS_flat l h rest,andThenS]
 simp [strsB]
theorem lenL_back (bs:List Int) (n v:Int) (hby:∀c∈bs,0≤c∧c < 256) (h:lenL bs 1=(n,v,0)):bs.take v.toNat=intB n∧0≤n∧1≤v∧v≤bs.length∧n≤bs.length - v:=by
 have ok:=lenL_ok bs 1 hby
 rw [h] at ok
 obtain ⟨o1,o2,o3,o4⟩:=ok rfl
 rw [Int.ediv_one] at o4
 have hI:getI bs=(n,v,0):=by
  rw [lenL] at h
  by_cases k1:(getI bs).2.2≠0
  ·rw [if_pos k1] at h
   simp only [Prod.mk.injEq] at h
   exact absurd h.2.2 k1
  ·rw [if_neg k1] at h
   by_cases k2:(getI bs).1 < 0
   ·rw [if_pos k2] at h;simp at h
   ·rw [if_neg k2] at h
    by_cases k3:(bs.length - (getI bs).2.1) / 1 < (getI bs).1
    ·rw [if_pos k3] at h;simp at h
    ·rw [if_neg k3] at h
     simp only [Prod.mk.injEq,and_true] at h
     have k1' : (getI bs).2.2=0:=by simpa using k1
     rw [←h.1,←h.2,←k1']
 exact ⟨getI_back bs n v hby hI,o1,o2,o3,o4⟩
theorem getInts_take (bs ds:List Int) (u:Int) (hby:∀c∈bs,0≤c∧c < 256) (h:getInts bs=(ds,u,0)):bs.take u.toNat=intsB ds∧0≤u∧u≤bs.length:=by
 rw [getInts] at h
 obtain ⟨n,v,e,hr⟩:∃x v e,lenL bs 1=(x,v,e):=⟨_,_,_,rfl⟩
 rw [hr] at h
 simp only at h
 by_cases g:e≠0
 ·rw [if_pos g] at h
  simp only [Prod.mk.injEq] at h
  exact absurd h.2.2 g
 ·rw [if_neg g] at h
  have g' : e=0:=by simpa using g
  subst g'
  obtain ⟨hb,o1,o2,o3,o4⟩:=lenL_back bs n v hby hr
  obtain ⟨d2,u2,e2,hr2⟩:∃p s t,getN n.toNat (bs.drop v.toNat)=(p,s,t):=⟨_,_,_,rfl⟩
  rw [hr2,andThen] at h
  simp only at h
  by_cases g2:e2≠0
  ·rw [if_pos g2] at h
   simp only [Prod.mk.injEq] at h
   exact absurd h.2.2 g2
  ·rw [if_neg g2] at h
   have g2' : e2=0:=by simpa using g2
   subst g2'
   simp only [Prod.mk.injEq,and_true,List.nil_append] at h
   obtain ⟨rfl,rfl⟩:=h
   obtain ⟨i1,i2,i3,i4⟩:=getN_back n.toNat (bs.drop v.toNat) d2 u2 (fun c hc=>hby c (List.mem_of_mem_drop hc)) hr2
   rw [List.length_drop] at i4
   refine ⟨?_,by omega,by omega⟩
   rw [intsB,i2,show ((n.toNat:Nat):Int)=n by omega,←hb,←i1,show (v+u2).toNat=v.toNat+u2.toNat by omega,List.take_add]
theorem getS_back (bs:List Int) (s:ByteArray) (u:Int) (hby:∀c∈bs,0≤c∧c < 256) (h:getS bs=(s,u,0)):bs.take u.toNat=strB s∧0≤u∧u≤bs.length:=by
 rw [getS] at h
 obtain ⟨n,v,e,hr⟩:∃x v e,lenL bs 1=(x,v,e):=⟨_,_,_,rfl⟩
 rw [hr] at h
 simp only at h
 by_cases g:e≠0
 ·rw [if_pos g] at h
  simp only [Prod.mk.injEq] at h
  exact absurd h.2.2 g
 ·rw [if_neg g] at h
  have g' : e=0:=by simpa using g
  subst g'
  obtain ⟨hb,o1,o2,o3,o4⟩:=lenL_back bs n v hby hr
  simp only [Prod.mk.injEq,and_true] at h
  obtain ⟨rfl,rfl⟩:=h
  refine ⟨?_,by omega,by omega⟩
  have hl:((bs.drop v.toNat).take n.toNat).length=n.toNat:=by rw [List.length_take,List.length_drop];omega
  rw [strB,strOf_size,hl,show ((n.toNat:Nat):Int)=n by omega,←hb,bytesL_strOf _ (fun c hc=>hby c (List.mem_of_mem_drop (List.mem_of_mem_take hc))),show (v+n).toNat=v.toNat+n.toNat by omega,List.take_add]
theorem getNS_back:∀(n:Nat) (l:List Int) (ds:List ByteArray) (u:Int),(∀c∈l,0≤c∧c < 256)→getNS n l=(ds,u,0)→l.take u.toNat=(ds.map strB).flatten∧ds.length=n∧0≤u∧u≤l.length
 |0,l,ds,u,_,h=>by
  simp only [getNS,Prod.mk.injEq,and_true] at h
  obtain ⟨rfl,rfl⟩:=h
  simp
 |n+1,l,ds,u,hby,h=>by
  rw [getNS] at h
  obtain ⟨x,v,e,hr⟩:∃x v e,getS l=(x,v,e):=⟨_,_,_,rfl⟩
  rw [hr] at h
  simp only at h
  by_cases g:e≠0
  ·rw [if_pos g] at h
   simp only [Prod.mk.injEq] at h
   exact absurd h.2.2 g
  ·rw [if_neg g] at h
   have g' : e=0:=by simpa using g
   subst g'
   obtain ⟨hb,o1,o2⟩:=getS_back l x v hby hr
   obtain ⟨d2,u2,e2,hr2⟩:∃p s t,getNS n (l.drop v.toNat)=(p,s,t):=⟨_,_,_,rfl⟩
   rw [hr2] at h
   simp only at h
   by_cases g2:e2≠0
   ·rw [if_pos g2] at h
    simp only [Prod.mk.injEq] at h
    exact absurd h.2.2 g2
   ·rw [if_neg g2] at h
    have g2' : e2=0:=by simpa using g2
    subst g2'
    simp only [Prod.mk.injEq,and_true] at h
    obtain ⟨rfl,rfl⟩:=h
    obtain ⟨i1,i2,i3,i4⟩:=getNS_back n (l.drop v.toNat) d2 u2 (fun c hc=>hby c (List.mem_of_mem_drop hc)) hr2
    rw [List.length_drop] at i4
    refine ⟨?_,by simp [i2],by omega,by omega⟩
    rw [show (v+u2).toNat=v.toNat+u2.toNat by omega,List.take_add,hb,i1]
    simp
theorem getStrs_take (bs:List Int) (ds:List ByteArray) (u:Int) (hby:∀c∈bs,0≤c∧c < 256) (h:getStrs bs=(ds,u,0)):bs.take u.toNat=strsB ds∧0≤u∧u≤bs.length:=by
 rw [getStrs] at h
 obtain ⟨n,v,e,hr⟩:∃x v e,lenL bs 1=(x,v,e):=⟨_,_,_,rfl⟩
 rw [hr] at h
 simp only at h
 by_cases g:e≠0
 ·rw [if_pos g] at h
  simp only [Prod.mk.injEq] at h
  exact absurd h.2.2 g
 ·rw [if_neg g] at h
  have g' : e=0:=by simpa using g
  subst g'
  obtain ⟨hb,o1,o2,o3,o4⟩:=lenL_back bs n v hby hr
  obtain ⟨d2,u2,e2,hr2⟩:∃p s t,getNS n.toNat (bs.drop v.toNat)=(p,s,t):=⟨_,_,_,rfl⟩
  rw [hr2,andThenS] at h
  simp only at h
  by_cases g2:e2≠0
  ·rw [if_pos g2] at h
   simp only [Prod.mk.injEq] at h
   exact absurd h.2.2 g2
  ·rw [if_neg g2] at h
   have g2' : e2=0:=by simpa using g2
   subst g2'
   simp only [Prod.mk.injEq,and_true,List.nil_append] at h
   obtain ⟨rfl,rfl⟩:=h
   obtain ⟨i1,i2,i3,i4⟩:=getNS_back n.toNat (bs.drop v.toNat) d2 u2 (fun c hc=>hby c (List.mem_of_mem_drop hc)) hr2
   rw [List.length_drop] at i4
   refine ⟨?_,by omega,by omega⟩
   rw [strsB,i2,show ((n.toNat:Nat):Int)=n by omega,←hb,←i1,show (v+u2).toNat=v.toNat+u2.toNat by omega,List.take_add]
theorem getInts_short (bs ds:List Int) (u:Int) (hby:∀c∈bs,0≤c∧c < 256) (h:getInts bs=(ds,u,0)):ds.length≤bs.length:=by
 obtain ⟨h1,h2,h3⟩:=getInts_take bs ds u hby h
 have:=congrArg List.length h1
 rw [intsB,List.length_append,List.length_take] at this
 have:=flat_ge ds
 omega
theorem strB_pos (s:ByteArray):1≤(strB s).length:=by
 have:1≤(intB s.size).length:=leb_pos _
 rw [strB,List.length_append];omega
theorem strs_all (l:List ByteArray):l.length≤((l.map strB).flatten).length∧∀s∈l,s.size≤((l.map strB).flatten).length:=by
 induction l with
 |nil=>simp
 |cons a r ih=>
  have h1:=strB_pos a
  have h2:(strB a).length=(intB a.size).length+a.size:=by rw [strB,List.length_append,bytesL_len]
  simp only [List.map_cons,List.flatten_cons,List.length_append,List.length_cons,List.mem_cons]
  refine ⟨by omega,fun s hs=>?_⟩
  rcases hs with rfl|hs
  ·omega
  ·have:=ih.2 s hs;omega
theorem getStrs_len (bs:List Int) (ds:List ByteArray) (u:Int) (hby:∀c∈bs,0≤c∧c < 256) (h:getStrs bs=(ds,u,0)):ds.length≤bs.length∧∀s∈ds,s.size≤bs.length:=by
 obtain ⟨h1,h2,h3⟩:=getStrs_take bs ds u hby h
 have:=congrArg List.length h1
 rw [strsB,List.length_append,List.length_take] at this
 obtain ⟨a,b⟩:=strs_all ds
 exact ⟨by omega,fun s hs=>by have:=b s hs;omega⟩
end
section
open Go.RowKit
theorem strCells_eq (s:ByteArray):Lib.strCells s=(bytesL s).map (Value.int .u8):=by
 simp [Lib.strCells,bytesL]
set_option maxRecDepth 100000 in
theorem wireBytes (s:ByteArray) (w:World) (hs:s.size≤1000000000):Calls Tryd.prog 48 #[.string s] w (MadeBytes w (strB s)):=by
 have hl0:=intB_len s.size (by omega) (by omega)
 go_enter Tryd.func48,Tryd.ntmps48
 go_wp2_with (first|(at_builtin;refine wp_appendStr (.tmp 5) (.tmp 6) 87 9 5 elemByte rfl rfl Tryd.underlying87 Tryd.underlying9 w.heap.size _ _ s rfl ho1 rfl (by rw [List.length_map];omega) hb1.size ?_;intro v' w' hown' hb')|(go_at_call 65;refine (wireInt _ _ (by omega) (by omega)).mono ?_;rintro e w1 ⟨v1,rfl,ho1,hb1⟩))
 go_ret
 exact ⟨_,rfl,by rw [strB,List.map_append,←strCells_eq];exact hown',hb1.trans hb'⟩
set_option maxRecDepth 100000 in
set_option maxHeartbeats 1000000 in
theorem slicesCloneI (v:Value) (zs:List Int) (w:World) (hv:Ints w v zs) (hl:zs.length≤1000000000):Calls Tryd.prog 40 #[v] w (MadeInts 3 w zs):=by
 have HV:=Lib.hid hv
 obtain ⟨a,cap,b,off,rfl,hcap,hm,ha,hc⟩:=hv.open
 clear hv hc
 cases a with
 |none=>
  have hz:zs = []:=List.eq_nil_of_length_eq_zero (by
   rcases Nat.eq_zero_or_pos zs.length with h|h
   ·exact h
   ·have:=ha h;cases this)
  subst hz
  clear ha
  have he:=fun (w:World)=>Lib.run_eql_slice_nil (P:=Tryd.prog) w 22 3 none 0 cap 0 0 (by kernel_rfl)
  go_enter Tryd.func40,Tryd.ntmps40
  simp only [Option.isNone_none] at he
  go_wp2
  go_ret
  exact ⟨_,rfl,Own.nil _ _ _,Below.refl _ _⟩
 |some ad=>
  clear ha
  have he:=fun (w:World)=>Lib.run_eql_slice_nil (P:=Tryd.prog) w 22 3 (some ad) zs.length cap 0 0 (by kernel_rfl)
  go_enter Tryd.func40,Tryd.ntmps40
  simp only [Option.isNone_some] at he
  have h0:=Lib.hid (show Own w.heap.size 3 (w.alloc (.cells #[] 3)) (.slice (some ⟨w.heap.size,0,none⟩) 0 0) [] from Own.lit w [] 3 w.heap.size (Nat.le_refl _) (by simp [maxLen]))
  have h1:=Lib.hid (show Rd (w.alloc (.cells #[] 3)) (.slice (some ad) zs.length cap) (zs.map (Value.int .i64)) from HV.out.below ((Below.refl _ _).alloc (Nat.le_refl _) _))
  go_wp2_with (at_builtin;refine wp_appendR _ _ 22 3 8 _ elemInt rfl rfl (by kernel_rfl) w.heap.size _ _ [] (zs.map (Value.int .i64)) rfl h0.out rfl h1.out (by intro c hc;obtain ⟨z,-,rfl⟩:=List.mem_map.1 hc;rfl) (by simp [maxLen];omega) (by simp;omega) (by simp) ?_;intro v' w' ho hb)
  go_ret
  exact ⟨_,rfl,by simpa using ho,((Below.refl _ _).alloc (Nat.le_refl _) _).trans hb⟩
structure Spec where
 p:Value→World→Prop
 st:∀v w w',p v w→Below w.heap.size w w'→p v w'
def Spec.any:Spec:=⟨fun _ _=>True,fun _ _ _ h _=>h⟩
def Spec.rd (cs:List Value):Spec:=⟨fun v w=>Rd w v cs,fun _ _ _ h hb=>h.below hb⟩
def LeB (w w' : World):Prop:=Below w.heap.size w w'
theorem LeB.trans (x y z:World) (h:LeB x y) (k:LeB y z):LeB x z:=Below.trans h (Below.mono k h.size)
def AllFrom (F:Nat→Oper→Prop):Nat→List Oper→Prop
 |_,[]=>True
 |i,o :: os=>F i o∧AllFrom F (i+1) os
theorem AllFrom.get {F:Nat→Oper→Prop} : ∀{l:List Oper} {k:Nat},AllFrom F k l→∀(i:Nat) (o:Oper),l[i]? = some o→F (k+i) o
 | [],_,_,i,o,h=>by simp at h
 |x :: xs,k,⟨h1,h2⟩,0,o,h=>by simp at h;subst h;exact h1
 |x :: xs,k,⟨h1,h2⟩,i+1,o,h=>by
  have:=AllFrom.get h2 i o (by simpa using h)
  rw [show k+(i+1)=k+1+i by omega];exact this
theorem AllFrom.of {F:Nat→Oper→Prop} : ∀(l:List Oper) (k:Nat),(∀(i:Nat) (o:Oper),l[i]? = some o→F (k+i) o)→AllFrom F k l
 | [],_,_=>trivial
 |x :: xs,k,h=>⟨h 0 x (by simp),AllFrom.of xs (k+1) (fun i o hi=>by rw [show k+1+i=k+(i+1) by omega];exact h (i+1) o (by simpa using hi))⟩
end
section
structure PRef where
 kind:Int
 id:Int
 dig:List Int
deriving Inhabited,DecidableEq
structure PMan where
 ver:Int
 notes:List Int
 refs:List PRef
deriving Inhabited
def zeroM:PMan:=⟨0,[],[]⟩
def refLt (a b:PRef):Bool:=decide (a.kind < b.kind) || (decide (a.kind=b.kind) && decide (a.id < b.id))
def refOK (r:PRef):Bool:=decide (1≤r.kind) && (decide (r.kind≤9) && (decide (1≤r.id) && decide (r.id≤1099511627776)))
def risesM:List PRef→Bool
 | []=>true
 | [r]=>refOK r
 |r :: x :: l=>refOK r && (refLt r x && risesM (x :: l))
def noteOK (n:Int):Bool:=decide (-1099511627776≤n) && decide (n≤1099511627776)
def rightM (m:PMan):Bool:=decide (0≤m.ver) && (decide (m.ver≤1099511627776) && (m.notes.all noteOK && ((decide (0 < m.ver) || decide (m.notes.length+m.refs.length=0)) && risesM m.refs)))
def nosM (l:List PRef):List Int:=l.flatMap fun r => [r.kind,r.id]
def digsM (l:List PRef):List ByteArray:=l.map fun r=>strOf r.dig
def encM (m:PMan):List Int:=intsB (m.ver :: m.notes) ++ (intsB (nosM m.refs) ++ strsB (digsM m.refs))
def refsOf:List Int→List ByteArray→List PRef
 |k :: i :: r,s :: t=>⟨k,i,bytesL s⟩ :: refsOf r t
 |_,_ => []
def DigsOK (m:PMan):Prop:=∀r∈m.refs,r.dig.length=16∧∀c∈r.dig,0≤c∧c < 256
theorem refsOf_enc:∀l:List PRef,(∀r∈l,∀c∈r.dig,0≤c∧c < 256)→refsOf (nosM l) (digsM l)=l
 | [],_=>rfl
 |r :: l,h=>by
  show (⟨r.kind,r.id,bytesL (strOf r.dig)⟩:PRef) :: refsOf (nosM l) (digsM l)=r :: l
  rw [refsOf_enc l (fun x hx=>h x (by simp [hx])),bytesL_strOf _ (h r (by simp))]
theorem refsOf_back:∀(t:List ByteArray) (r:List Int),r.length=2 * t.length→nosM (refsOf r t)=r∧digsM (refsOf r t)=t∧(refsOf r t).length=t.length
 | [],r,h=>by
  have:r = []:=List.eq_nil_of_length_eq_zero (by simpa using h)
  subst this
  exact ⟨rfl,rfl,rfl⟩
 |s :: t,r,h=>by
  match r,h with
  | [],h=>simp at h
  | [k],h=>simp at h;omega
  |k :: i :: r,h=>
   obtain ⟨h1,h2,h3⟩:=refsOf_back t r (by simp at h;omega)
   refine ⟨?_,?_,?_⟩
   ·show k :: i :: nosM (refsOf r t)=_
    rw [h1]
   ·show strOf (bytesL s) :: digsM (refsOf r t)=_
    rw [h2,strOf_bytesL]
   ·show (refsOf r t).length+1=_
    rw [h3];rfl
theorem nosM_len (l:List PRef):(nosM l).length=2 * l.length:=by
 induction l with
 |nil=>rfl
 |cons r l ih=>
  show (nosM l).length+2=_
  rw [ih];simp;omega
theorem digsM_len (l:List PRef):(digsM l).length=l.length:=by simp [digsM]
def checkM (e1 e2:Int) (m:PMan):Int:=if 16 < m.notes.length∨600 < m.refs.length then e1 else if rightM m=true then 0 else e2
def decM (bs:List Int):Option PMan:=
 if (getInts bs).2.2≠0∨(getInts bs).1 = [] then none
 else
  let n:=(getInts bs).2.1.toNat
  if (getInts (bs.drop n)).2.2≠0 then none
  else
   let k:=(getInts (bs.drop n)).2.1.toNat
   let g:=getStrs (bs.drop (n+k))
   if g.2.2≠0∨n+k+g.2.1≠bs.length∨(getInts (bs.drop n)).1.length≠2 * g.1.length then none
   else if g.1.any (fun s=>decide (s.size≠16))=true then none
   else
    let m:PMan:=⟨(getInts bs).1.headD 0,(getInts bs).1.tail,refsOf (getInts (bs.drop n)).1 g.1⟩
    if checkM 1 2 m=0 then some m else none
theorem rises_all:∀l:List PRef,risesM l=true→∀r∈l,refOK r=true
 | [],_,r,hr=>by simp at hr
 | [x],h,r,hr=>by
  simp only [List.mem_cons,List.not_mem_nil,or_false] at hr
  subst hr
  exact h
 |x :: y :: l,h,r,hr=>by
  simp only [risesM,Bool.and_eq_true] at h
  rcases List.mem_cons.1 hr with rfl|hr
  ·exact h.1
  ·exact rises_all (y :: l) h.2.2 r hr
theorem checkM_ok {a b:Int} (ha:a≠0) (hb:b≠0) {m:PMan} (h:checkM a b m=0):m.notes.length≤16∧m.refs.length≤600∧rightM m=true:=by
 unfold checkM at h
 split at h
 ·exact absurd h ha
 ·split at h
  ·rename_i h1 h2
   exact ⟨by omega,by omega,h2⟩
  ·exact absurd h hb
theorem rightM_fit {m:PMan} (h:rightM m=true):(∀z∈m.ver :: m.notes,-9223372036854775808≤z∧z≤9223372036854775807)∧∀z∈nosM m.refs,-9223372036854775808≤z∧z≤9223372036854775807:=by
 simp only [rightM,Bool.and_eq_true,decide_eq_true_eq] at h
 obtain ⟨h1,h2,h3,-,h5⟩:=h
 refine ⟨fun z hz=>?_,fun z hz=>?_⟩
 ·rcases List.mem_cons.1 hz with rfl|hz
  ·omega
  ·have:=List.all_eq_true.1 h3 z hz
   simp only [noteOK,Bool.and_eq_true,decide_eq_true_eq] at this
   omega
 ·obtain ⟨r,hr,hz⟩:=List.mem_flatMap.1 hz
  have:=rises_all _ h5 r hr
  simp only [refOK,Bool.and_eq_true,decide_eq_true_eq] at this
  simp only [List.mem_cons,List.not_mem_nil,or_false] at hz
  rcases hz with rfl|rfl<;>omega
theorem digs_small {m:PMan} (h:DigsOK m):SmallStrs (digsM m.refs):=fun s hs=>by
 obtain ⟨r,hr,rfl⟩:=List.mem_map.1 hs
 rw [strOf_size,(h r hr).1];decide
theorem decM_enc {m:PMan} (hc:checkM 1 2 m=0) (hd:DigsOK m):decM (encM m)=some m:=by
 obtain ⟨n1,n2,hr⟩:=checkM_ok (by decide) (by decide) hc
 obtain ⟨f1,f2⟩:=rightM_fit hr
 have h1:getInts (encM m)=(m.ver :: m.notes,((intsB (m.ver :: m.notes)).length:Int),0):=getInts_rest _ _ f1 (by simp only [List.length_cons];omega)
 have h2:(encM m).drop (intsB (m.ver :: m.notes)).length=intsB (nosM m.refs) ++ strsB (digsM m.refs):=by rw [encM,List.drop_left]
 have h3:getInts (intsB (nosM m.refs) ++ strsB (digsM m.refs))=(nosM m.refs,((intsB (nosM m.refs)).length:Int),0):=getInts_rest _ _ f2 (by rw [nosM_len];omega)
 have h4:(encM m).drop ((intsB (m.ver :: m.notes)).length+(intsB (nosM m.refs)).length)=strsB (digsM m.refs) ++ []:=by rw [←List.drop_drop,h2,List.drop_left];simp
 have h5:=getStrs_rest (digsM m.refs) [] (digs_small hd) (by rw [digsM_len];omega)
 have hlen:(encM m).length=(intsB (m.ver :: m.notes)).length+((intsB (nosM m.refs)).length+(strsB (digsM m.refs)).length):=by simp [encM]
 unfold decM
 rw [h1]
 simp only [Int.toNat_natCast]
 rw [if_neg (by simp),h2,h3]
 simp only [Int.toNat_natCast]
 rw [if_neg (by simp),h4,h5]
 simp only
 rw [if_neg (by
  simp only [not_or,Classical.not_not]
  refine ⟨trivial,?_,?_⟩
  ·rw [hlen];omega
  ·rw [nosM_len,digsM_len]),if_neg (by
  rw [List.any_eq_true]
  rintro ⟨s,hs,h⟩
  obtain ⟨r,hr,rfl⟩:=List.mem_map.1 hs
  rw [strOf_size,(hd r hr).1] at h
  simp at h)]
 rw [refsOf_enc _ (fun r hr=>(hd r hr).2)]
 show (if checkM 1 2 ⟨m.ver,m.notes,m.refs⟩=0 then some (⟨m.ver,m.notes,m.refs⟩:PMan) else none)=some m
 rw [show (⟨m.ver,m.notes,m.refs⟩:PMan)=m by cases m;rfl,if_pos hc]
def decA (bs:List Int):Option PMan:=
 if (getInts bs).2.2≠0∨(getInts bs).1 = [] then none
 else
  let n:=(getInts bs).2.1.toNat
  if (getInts (bs.drop n)).2.2≠0 then none
  else
   let k:=(getInts (bs.drop n)).2.1.toNat
   let g:=getStrs (bs.drop (n+k))
   if g.2.2≠0∨(getInts (bs.drop n)).1.length≠2 * g.1.length then none
   else if g.1.any (fun s=>decide (s.size≠16))=true then none
   else
    let m:PMan:=⟨(getInts bs).1.headD 0,(getInts bs).1.tail,refsOf (getInts (bs.drop n)).1 g.1⟩
    if checkM 1 2 m≠0∨encM m≠bs then none else some m
theorem decA_eq {bs:List Int} (hby:∀c∈bs,0≤c∧c < 256):decA bs=decM bs:=by
 unfold decA decM
 obtain ⟨a,u,e,h1⟩:∃a u e,getInts bs=(a,u,e):=⟨_,_,_,rfl⟩
 rw [h1]
 simp only
 by_cases g1:e≠0∨a = []
 ·rw [if_pos g1,if_pos g1]
 rw [if_neg g1,if_neg g1]
 simp only [not_or,Classical.not_not] at g1
 obtain ⟨rfl,g1⟩:=g1
 obtain ⟨t1,t2,t3⟩:=getInts_take bs a u hby h1
 have hby2:∀k,∀c∈bs.drop k,0≤c∧c < 256:=fun k c hc=>hby c (List.mem_of_mem_drop hc)
 obtain ⟨b,v,e,h2⟩:∃b v e,getInts (bs.drop u.toNat)=(b,v,e):=⟨_,_,_,rfl⟩
 rw [h2]
 simp only
 by_cases g2:e≠0
 ·rw [if_pos g2,if_pos g2]
 rw [if_neg g2,if_neg g2]
 simp only [Classical.not_not] at g2
 subst g2
 obtain ⟨t4,t5,t6⟩:=getInts_take _ b v (hby2 _) h2
 obtain ⟨d,w,e,h3⟩:∃d w e,getStrs (bs.drop (u.toNat+v.toNat))=(d,w,e):=⟨_,_,_,rfl⟩
 rw [h3]
 simp only
 by_cases g3:e≠0∨b.length≠2 * d.length
 ·rw [if_pos g3,if_pos (g3.imp id .inr)]
 rw [if_neg g3]
 simp only [not_or,Classical.not_not] at g3
 obtain ⟨rfl,g5⟩:=g3
 obtain ⟨t7,t8,t9⟩:=getStrs_take _ d w (hby2 _) h3
 obtain ⟨b1,b2,b3⟩:=refsOf_back d b g5
 have ea:a.headD 0 :: a.tail=a:=by cases a with|nil=>exact absurd rfl g1|cons x y=>rfl
 have hE:encM ⟨a.headD 0,a.tail,refsOf b d⟩=bs.take u.toNat ++ ((bs.drop u.toNat).take v.toNat ++ (bs.drop (u.toNat+v.toNat)).take w.toNat):=by
  unfold encM
  simp only
  rw [b1,b2,ea,t1,t4,t7]
 rw [List.length_drop] at t6 t9
 have hl:(encM ⟨a.headD 0,a.tail,refsOf b d⟩).length=u.toNat+(v.toNat+w.toNat):=by
  rw [hE]
  simp only [List.length_append,List.length_take,List.length_drop]
  omega
 have hI:encM ⟨a.headD 0,a.tail,refsOf b d⟩=bs↔(u.toNat:Int)+v.toNat+w=bs.length:=by
  constructor
  ·intro h
   rw [h] at hl
   omega
  ·intro h
   have t10:(bs.drop (u.toNat+v.toNat)).take w.toNat=bs.drop (u.toNat+v.toNat):=List.take_of_length_le (by rw [List.length_drop];omega)
   rw [hE,t10,←List.drop_drop,List.take_append_drop,List.take_append_drop]
 by_cases g4:(u.toNat:Int)+v.toNat+w=bs.length
 ·have hN:¬((0:Int)≠0∨(u.toNat:Int)+v.toNat+w≠bs.length∨b.length≠2 * d.length):=by
   rintro (h|h|h)
   ·exact h rfl
   ·exact h g4
   ·exact h g5
  rw [if_neg hN]
  by_cases g6:d.any (fun s=>decide (s.size≠16))=true
  ·rw [if_pos g6,if_pos g6]
  ·rw [if_neg g6,if_neg g6]
   by_cases g7:checkM 1 2 ⟨a.headD 0,a.tail,refsOf b d⟩=0
   ·rw [if_pos g7,if_neg (by rintro (h|h);exact h g7;exact h (hI.2 g4))]
   ·rw [if_neg g7,if_pos (.inl g7)]
 ·have hN:(0:Int)≠0∨(u.toNat:Int)+v.toNat+w≠bs.length∨b.length≠2 * d.length:=.inr (.inl g4)
  rw [if_pos hN]
  split
  ·rfl
  ·rw [if_pos (.inr fun h=>g4 (hI.1 h))]
def hasR (l:List PRef) (k i:Int):Option PRef:=l.find? fun r=>decide (r.kind=k) && decide (r.id=i)
def OneKey (l:List PRef):Prop:=∀x∈l,∀y∈l,x.kind=y.kind→x.id=y.id→x=y
theorem refLt_iff {a b:PRef} : refLt a b=true↔a.kind < b.kind∨a.kind=b.kind∧a.id < b.id:=by simp [refLt]
theorem rises_lt:∀(l:List PRef) (r:PRef),risesM (r :: l)=true→∀x∈l,refLt r x=true
 | [],r,_,x,hx=>by simp at hx
 |y :: l,r,h,x,hx=>by
  simp only [risesM,Bool.and_eq_true] at h
  rcases List.mem_cons.1 hx with rfl|hx
  ·exact h.2.1
  ·have h1:=rises_lt l y h.2.2 x hx
   rw [refLt_iff] at h1 ⊢
   have h2:=refLt_iff.1 h.2.1
   omega
theorem rises_tail {r:PRef} {l:List PRef} (h:risesM (r :: l)=true):risesM l=true:=by
 cases l with
 |nil=>rfl
 |cons y l=>simp only [risesM,Bool.and_eq_true] at h;exact h.2.2
theorem rises_one:∀l:List PRef,risesM l=true→OneKey l∧l.Nodup
 | [],_=>⟨fun x hx=>by simp at hx,List.nodup_nil⟩
 |r :: l,h=>by
  obtain ⟨h1,h2⟩:=rises_one l (rises_tail h)
  have h3:=rises_lt l r h
  refine ⟨fun x hx y hy e1 e2=>?_,List.nodup_cons.2 ⟨fun hr=>?_,h2⟩⟩
  ·rcases List.mem_cons.1 hx with p1|p1<;>rcases List.mem_cons.1 hy with p2|p2
   ·rw [p1,p2]
   ·have:=refLt_iff.1 (h3 y p2);rw [p1] at e1 e2;omega
   ·have:=refLt_iff.1 (h3 x p1);rw [p2] at e1 e2;omega
   ·exact h1 x p1 y p2 e1 e2
  ·have:=refLt_iff.1 (h3 r hr);omega
theorem rises_get:∀(l:List PRef),risesM l=true→∀j x,j < x→x < l.length→refLt (l.getD j default) (l.getD x default)=true
 | [],_,j,x,_,hx=>by simp at hx
 |r :: l,h,j,x,hj,hx=>by
  cases x with
  |zero=>omega
  |succ x=>
   have hx2:x < l.length:=by simpa using hx
   have e:(r :: l).getD (x+1) default=l.getD x default:=rfl
   rw [e]
   cases j with
   |zero=>
    refine rises_lt l r h _ ?_
    rw [List.getD_eq_getElem?_getD,List.getElem?_eq_getElem hx2]
    exact List.getElem_mem _
   |succ j=>exact rises_get l (rises_tail h) j x (by omega) hx2
def ltK (r:PRef) (k i:Int):Bool:=decide (r.kind < k) || (decide (r.kind=k) && decide (r.id < i))
theorem has_split {l:List PRef} (h:risesM l=true) {k i:Int} {j:Nat} (h2:∀x,j≤x→x < l.length→ltK (l.getD x default) k i=false) (h1:∀x,x < j→x < l.length→ltK (l.getD x default) k i=true) :
  hasR l k i=if j < l.length∧(l.getD j default).kind=k∧(l.getD j default).id=i then some (l.getD j default) else none:=by
 obtain ⟨o1,-⟩:=rises_one l h
 have hm:∀x,x < l.length→l.getD x default∈l:=fun x hx=>by
  rw [List.getD_eq_getElem?_getD,List.getElem?_eq_getElem hx]
  exact List.getElem_mem _
 split
 ·rename_i g
  obtain ⟨g1,g2,g3⟩:=g
  unfold hasR
  cases hf:l.find? (fun r=>decide (r.kind=k) && decide (r.id=i)) with
  |none=>
   rw [List.find?_eq_none] at hf
   exact absurd (by simp only [Bool.and_eq_true,decide_eq_true_eq];exact ⟨g2,g3⟩) (hf _ (hm j g1))
  |some x=>
   have q:=List.find?_some hf
   simp only [Bool.and_eq_true,decide_eq_true_eq] at q
   rw [o1 x (List.mem_of_find?_eq_some hf) _ (hm j g1) (by rw [q.1,g2]) (by rw [q.2,g3])]
 ·rename_i g
  unfold hasR
  rw [List.find?_eq_none]
  intro r hr hk
  simp only [Bool.and_eq_true,decide_eq_true_eq] at hk
  obtain ⟨x,hx,rfl⟩:=List.getElem_of_mem hr
  have e:l.getD x default=l[x]:=by rw [List.getD_eq_getElem?_getD,List.getElem?_eq_getElem hx];rfl
  rw [←e] at hk
  rcases Nat.lt_trichotomy x j with hj|rfl|hj
  ·have:=h1 x hj hx
   simp only [ltK,Bool.or_eq_true,Bool.and_eq_true,decide_eq_true_eq] at this
   omega
  ·exact g ⟨hx,hk⟩
  ·have q1:=refLt_iff.1 (rises_get l h j x hj hx)
   have q2:=h2 j (by omega) (by omega)
   have q3:ltK (l.getD j default) k i=true:=by
    simp only [ltK,Bool.or_eq_true,Bool.and_eq_true,decide_eq_true_eq]
    omega
   rw [q3] at q2
   cases q2
theorem ltK_mono {l:List PRef} (h:risesM l=true) {k i:Int} {x y:Nat} (hx:x≤y) (hy:y < l.length) (hl:ltK (l.getD y default) k i=true):ltK (l.getD x default) k i=true:=by
 rcases Nat.lt_or_ge x y with g|g
 ·have q:=refLt_iff.1 (rises_get l h x y g hy)
  simp only [ltK,Bool.or_eq_true,Bool.and_eq_true,decide_eq_true_eq] at hl ⊢
  omega
 ·rw [show x=y by omega];exact hl
theorem intB_one {n:Int} (h1:0≤n) (h2:n≤63):(intB n).length=1:=by
 unfold intB
 rw [leb_small _ (by unfold zig;split<;>omega)];rfl
theorem intB_six {n:Int} (h1:0≤n) (h2:n≤1099511627776):(intB n).length≤6:=
 leb_len 5 _ (by have:128 ^ (5+1)=4398046511104:=rfl;unfold zig;split<;>omega)
theorem nos_len:∀l:List PRef,(∀r∈l,refOK r=true)→((nosM l).map intB).flatten.length≤7 * l.length
 | [],_=>by simp [nosM]
 |r :: l,h=>by
  have ih:=nos_len l (fun x hx=>h x (by simp [hx]))
  have h1:=h r (by simp)
  simp only [refOK,Bool.and_eq_true,decide_eq_true_eq] at h1
  have h2:=intB_one (n:=r.kind) (by omega) (by omega)
  have h3:=intB_six (n:=r.id) (by omega) (by omega)
  show (intB r.kind ++ (intB r.id ++ ((nosM l).map intB).flatten)).length≤_
  simp only [List.length_append,List.length_cons]
  omega
theorem digs_len:∀l:List PRef,(∀r∈l,r.dig.length=16)→((digsM l).map strB).flatten.length=17 * l.length
 | [],_=>by simp [digsM]
 |r :: l,h=>by
  have ih:=digs_len l (fun x hx=>h x (by simp [hx]))
  have h1:=h r (by simp)
  show (strB (strOf r.dig) ++ ((digsM l).map strB).flatten).length=_
  have h2:=intB_one (n:=(strOf r.dig).size) (by omega) (by rw [strOf_size,h1];decide)
  rw [List.length_append,strB,List.length_append,bytesL_len,strOf_size,ih]
  rw [strOf_size] at h2
  rw [h2,h1,List.length_cons]
  omega
theorem encM_len {m:PMan} (hc:checkM 1 2 m=0) (hd:DigsOK m):3≤(encM m).length∧(encM m).length≤24 * m.refs.length+200:=by
 obtain ⟨n1,n2,hr⟩:=checkM_ok (by decide) (by decide) hc
 obtain ⟨f1,f2⟩:=rightM_fit hr
 have h1:=flat_len (m.ver :: m.notes) f1
 have h2:=nos_len m.refs (by
  simp only [rightM,Bool.and_eq_true] at hr
  exact rises_all _ hr.2.2.2.2)
 have h3:=digs_len m.refs (fun r hr=>(hd r hr).1)
 have l1:=intB_len ((m.ver :: m.notes).length:Nat) (by omega) (by simp only [List.length_cons];omega)
 have l2:=intB_len ((nosM m.refs).length:Nat) (by omega) (by rw [nosM_len];omega)
 have l3:=intB_len ((digsM m.refs).length:Nat) (by omega) (by rw [digsM_len];omega)
 simp only [List.length_cons] at h1
 unfold encM intsB strsB
 simp only [List.length_append]
 omega
end
end Go.Proofs.YtmeekbjhpidcgaaDoor
