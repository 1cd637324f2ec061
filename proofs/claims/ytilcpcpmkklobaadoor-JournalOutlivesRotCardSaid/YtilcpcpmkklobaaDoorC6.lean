/- Merged: Opens, Opens2, Row24. -/
import Derived.Deep.Slices
import Derived.Lib.LaidU8
import Derived.LaidMore
import Derived.LaidLaws
import Derived.Stop.Joined
import Derived.MakeChecks
import Derived.OpenShut
import Derived.Test.YtilcpcpmkklobaaDoorC5
/- How a law's arguments are opened, whatever their types; a law's row out of its contract over pure values. -/
namespace Go.Proofs.YtilcpcpmkklobaaDoor
set_option linter.unusedSimpArgs false
set_option linter.unusedVariables false
set_option linter.unnecessarySimpa false
open Go.ChangeShapes Go.WideShapes Go.ChangeAt Go.RowKit

def immW (W : World) : Imm := fun b o => W.cell? ⟨b, o, none⟩

theorem RepL.append {Φ : Imm} {μ : Nat → Option Nat} {cs ds : List PV} {us vs : List Value} (h : RepL Φ μ cs us) (k : RepL Φ μ ds vs) : RepL Φ μ (cs ++ ds) (us ++ vs) := by
  refine ⟨by simp [h.1, k.1], fun j c u h1 h2 => ?_⟩
  by_cases hj : j < cs.length
  · rw [List.getElem?_append_left hj] at h1
    rw [List.getElem?_append_left (by rw [h.1]; exact hj)] at h2
    exact h.2 j c u h1 h2
  · rw [List.getElem?_append_right (by omega)] at h1
    rw [List.getElem?_append_right (by rw [h.1]; omega), h.1] at h2
    exact k.2 _ c u h1 h2

/-- Cells of the type t read as a value of α, whose cells are encoded by en. -/
def Opens (P : Program) (t : TypeId) {α : Type} (en : α → List PV) (ok : α → Prop) : Prop :=
  ∀ (H : Type) (enc : TypeId × Value → H) (W : World) (fuel : Nat) (cs : List Value) (d : DataW H) (pl : List MemPlace),
    DataW.trod enc P W 0 (fun _ => true) true fuel t cs = some (d, pl) → (∀ n ∈ d.weights P t, n ≤ reachBytes) → ∃ y : α, ok y ∧ RepL (immW W) mu0 (en y) cs

section
variable {P : Program} {t e : TypeId}
theorem Opens.map {α β : Type} {en : α → List PV} {ok : α → Prop} (h : Opens P t en ok) (g : α → β) {en' : β → List PV} {ok' : β → Prop} (hen : ∀ a, ok a → en' (g a) = en a) (hok : ∀ a, ok a → ok' (g a)) : Opens P t en' ok' := by
  intro H enc W fuel cs d pl h1 h2
  obtain ⟨y, k1, k2⟩ := h H enc W fuel cs d pl h1 h2
  exact ⟨g y, hok y k1, by rw [hen y k1]; exact k2⟩
theorem opens_int {k : IntKind} (ht : P.underlying t = some (.int k)) : Opens P t (fun z : Int => [.val (.int k z)]) (fun z => (Lit.int k z).wf = true) := by
  intro H enc W fuel cs d pl h hw
  obtain ⟨n, rfl, hx, hwf⟩ := DataW.trod_int ht h
  exact ⟨n, hwf, RepL.cons (.val _ rfl) RepL.nil⟩
theorem opens_bool (ht : P.underlying t = some .bool) : Opens P t (fun b : Bool => [.val (.bool b)]) (fun _ => True) := by
  intro H enc W fuel cs d pl h hw
  obtain ⟨n, rfl, hx⟩ := DataW.trod_bool ht h
  exact ⟨n, trivial, RepL.cons (.val _ rfl) RepL.nil⟩
theorem opens_str (ht : P.underlying t = some .string) : Opens P t (fun b : ByteArray => [.val (.string b)]) (fun b => b.size ≤ reachBytes) := by
  intro H enc W fuel cs d pl h hw
  obtain ⟨s, rfl, hx, hs⟩ := DataW.trod_string ht h
  refine ⟨s, ?_, RepL.cons (.val _ rfl) RepL.nil⟩
  cases hx
  have := hw s.data.toList.length (by simp [DataW.weights])
  simpa using this

theorem weights_mem {H : Type} {e : TypeId} : ∀ {l : List (DataW H)} {d : DataW H}, d ∈ l → ∀ n ∈ d.weights P e, n ∈ DataW.weightsAll P e l
  | x :: l, d, h, n, hn => by
    rw [DataW.weightsAll, List.mem_append]
    rcases List.mem_cons.1 h with rfl | h
    · exact .inl hn
    · exact .inr (weights_mem h n hn)

theorem opens_slice {α : Type} {en : α → List PV} {ok : α → Prop} {k b : Nat} (ht : P.underlying t = some (.slice e)) (hc : P.cellsOf e = k) (hk : 0 < k) (hb : P.bytesOf e = b) (he : Opens P e en ok) (hlen : ∀ x, ok x → (en x).length = k) :
    Opens P t (fun xs : List α => [.sl xs.length k (xs.flatMap en) none]) (fun xs => (∀ x ∈ xs, ok x) ∧ xs.length * b ≤ reachBytes) := by
  intro H enc W fuel cs d pl h hw
  rcases Deep.open_slice ht h with ⟨rfl, hx⟩ | ⟨a, len, cap, m, n, D, Pl, rfl, -, hl, hm, hmm, hx, hel⟩
  · exact ⟨[], ⟨by simp, by simp⟩, RepL.cons (.sl0 _ _ _ _ (by unfold maxLen; omega)) RepL.nil⟩
  · simp only [if_true] at hmm
    subst hmm
    cases hx
    have hall : ∀ i, i < len → ∃ y : α, ok y ∧ ∃ us, W.cells? 0 (a.add (i * P.cellsOf e)) (P.cellsOf e) = some us ∧ RepL (immW W) mu0 (en y) us := by
      intro i hi
      obtain ⟨us, h1, h2⟩ := hel i (by omega)
      obtain ⟨y, k1, k2⟩ := he H enc W n us (D i) (Pl i) h2 (fun x hx => by
        refine hw x ?_
        simp only [DataW.weights, ht, List.mem_cons, List.mem_append]
        exact .inr (.inl (weights_mem (List.mem_map.2 ⟨i, by simpa using hi, rfl⟩) x hx)))
      exact ⟨y, k1, us, h1, k2⟩
    have : ∃ xs : List α, xs.length = len ∧ ∀ i x, xs[i]? = some x → ok x ∧ ∃ us, W.cells? 0 (a.add (i * P.cellsOf e)) (P.cellsOf e) = some us ∧ RepL (immW W) mu0 (en x) us := by
      have key : ∀ j, j ≤ len → ∃ xs : List α, xs.length = j ∧ ∀ i x, xs[i]? = some x → ok x ∧ ∃ us, W.cells? 0 (a.add (i * P.cellsOf e)) (P.cellsOf e) = some us ∧ RepL (immW W) mu0 (en x) us := by
        intro j
        induction j with
        | zero => exact fun _ => ⟨[], rfl, fun i x hx => by simp at hx⟩
        | succ j ih =>
          intro hj
          obtain ⟨xs, h1, h2⟩ := ih (by omega)
          obtain ⟨y, k1, k2⟩ := hall j (by omega)
          refine ⟨xs ++ [y], by simp [h1], fun i x hx => ?_⟩
          by_cases hi : i < j
          · rw [List.getElem?_append_left (by omega)] at hx; exact h2 i x hx
          · rw [List.getElem?_append_right (by omega)] at hx
            have h0 : i - xs.length = 0 := by
              have := (List.getElem?_eq_some_iff.1 hx).1
              simp at this; omega
            rw [h0] at hx; simp at hx; subst hx
            obtain rfl : i = j := by omega
            exact ⟨k1, k2⟩
      exact key len (Nat.le_refl _)
    obtain ⟨xs, hxl, hxs⟩ := this
    refine ⟨xs, ⟨fun x hx => ?_, ?_⟩, RepL.cons ?_ RepL.nil⟩
    · obtain ⟨i, hi⟩ := List.getElem?_of_mem hx
      exact (hxs i x hi).1
    · have hw1 := hw (((List.range len).map D).length * P.bytesOf e + ((List.range (m - len)).map fun j => D (len + j)).length * P.bytesOf e) (by
        simp only [DataW.weights, ht, List.mem_cons, List.mem_append, Nat.add_mul]
        exact .inl trivial)
      simp only [List.length_map, List.length_range, hb] at hw1
      rw [hxl]; omega
    · by_cases h0 : len = 0
      · subst h0
        obtain rfl : xs = [] := List.eq_nil_of_length_eq_zero hxl
        exact .sl0 _ _ _ _ hm
      · obtain ⟨bl, off, spot⟩ := a
        have hfl : (xs.flatMap en).length = len * k := by
          rw [← hxl]
          have : ∀ (l : List α), (∀ x ∈ l, (en x).length = k) → (l.flatMap en).length = l.length * k := by
            intro l
            induction l with
            | nil => simp
            | cons x l ih => intro h; rw [List.flatMap_cons, List.length_append, h x (by simp), ih (fun y hy => h y (by simp [hy])), List.length_cons, Nat.succ_mul]; omega
          exact this xs (fun x hx => by
            obtain ⟨i, hi⟩ := List.getElem?_of_mem hx
            exact hlen x (hxs i x hi).1)
        have hcell : ∀ i r, i < len → r < k → ∃ x u, xs[i]? = some x ∧ W.cell? (Addr.add (Addr.add ⟨bl, off, spot⟩ (i * k)) r) = some u ∧ ∀ c, (en x)[r]? = some c → Rep (immW W) mu0 c u := by
          intro i r hi hr
          have hix : i < xs.length := by omega
          obtain ⟨k1, us, k2, k3⟩ := hxs i xs[i] (by simp [hix])
          obtain ⟨-, q2, q3⟩ := World.cells?_some k2
          rw [hc] at q2 q3
          have hru : r < us.length := by omega
          refine ⟨xs[i], us[r], by simp [hix], by rw [q3 r hr]; simp [hru], fun c hcc => k3.2 r c _ hcc (by simp [hru])⟩
        have hspot : spot = none := by
          obtain ⟨x, u, -, h2, -⟩ := hcell 0 0 (by omega) hk
          have := World.cell?_spot h2
          simpa [Addr.add] using this
        subst hspot
        rw [← hxl]
        refine .sl xs.length k _ none bl off m (fun j => (W.cell? ⟨bl, off + j, none⟩).getD undef) (by rw [hfl, hxl]) (by omega) hm (fun j hj => ?_) (fun j c hj => ?_)
        · rw [hfl] at hj
          have hq : j / k < len := by rw [Nat.div_lt_iff_lt_mul hk]; exact hj
          obtain ⟨x, u, -, h2, -⟩ := hcell (j / k) (j % k) hq (Nat.mod_lt _ hk)
          rw [Addr.add_lit, Addr.add_lit, Nat.add_assoc, Nat.mul_comm, Nat.div_add_mod] at h2
          simp only [immW, h2, Option.getD_some]
        · have hjl := (List.getElem?_eq_some_iff.1 hj).1
          rw [hfl] at hjl
          have hq : j / k < len := by rw [Nat.div_lt_iff_lt_mul hk]; exact hjl
          obtain ⟨x, u, h1, h2, h3⟩ := hcell (j / k) (j % k) hq (Nat.mod_lt _ hk)
          rw [Addr.add_lit, Addr.add_lit, Nat.add_assoc, Nat.mul_comm, Nat.div_add_mod] at h2
          rw [h2, Option.getD_some]
          refine h3 c ?_
          have hxk : ∀ x ∈ xs, (en x).length = k := fun x hx => by
            obtain ⟨i, hi⟩ := List.getElem?_of_mem hx
            exact hlen x (hxs i x hi).1
          have gen : ∀ (l : List α) (i r : Nat) (x : α), (∀ x ∈ l, (en x).length = k) → l[i]? = some x → r < k → (l.flatMap en)[i * k + r]? = (en x)[r]? := by
            intro l
            induction l with
            | nil => intro i r x _ h; simp at h
            | cons y l ih =>
              intro i r x hl h hr
              rw [List.flatMap_cons]
              cases i with
              | zero =>
                simp at h; subst h
                rw [Nat.zero_mul, Nat.zero_add, List.getElem?_append_left (by rw [hl y (by simp)]; exact hr)]
              | succ i =>
                simp at h
                have := ih i r x (fun z hz => hl z (by simp [hz])) h hr
                rw [List.getElem?_append_right (by rw [hl y (by simp), Nat.succ_mul]; omega), hl y (by simp), ← this]
                congr 1
                rw [Nat.succ_mul]; omega
          rw [← gen xs (j / k) (j % k) x hxk h1 (Nat.mod_lt _ hk), Nat.mul_comm, Nat.div_add_mod]
          exact hj

/-- Fields, from the cell o on, m cells in all. -/
def OpensFs (P : Program) (fs : List Field) (o m : Nat) {α : Type} (en : α → List PV) (ok : α → Prop) : Prop :=
  ∀ (H : Type) (enc : TypeId × Value → H) (W : World) (n : Nat) (cs : List Value) (xs : List (DataW H × List MemPlace)), xs.length = fs.length → (∀ (i : Nat) (f : Field), fs[i]? = some f → DataW.trod enc P W 0 (fun _ => true) true n f.type ((cs.drop f.offset).take (P.cellsOf f.type)) = xs[i]?) →
    (∀ k ∈ DataW.weightsEach P (fs.map (·.type)) (xs.map (·.1)), k ≤ reachBytes) → ∃ y : α, ok y ∧ RepL (immW W) mu0 (en y) ((cs.drop o).take m)

theorem opensFs_nil {o : Nat} : OpensFs P [] o 0 (fun _ : Unit => []) (fun _ => True) := by
  intro H enc W n cs xs _ _ _
  exact ⟨(), trivial, by simpa using RepL.nil⟩
theorem opensFs_cons {f : Field} {fs : List Field} {o k m : Nat} {α β : Type} {en1 : α → List PV} {ok1 : α → Prop} {en2 : β → List PV} {ok2 : β → Prop} (ho : f.offset = o) (hk : P.cellsOf f.type = k) (h1 : Opens P f.type en1 ok1) (h2 : OpensFs P fs (o + k) m en2 ok2) :
    OpensFs P (f :: fs) o (k + m) (fun p : α × β => en1 p.1 ++ en2 p.2) (fun p => ok1 p.1 ∧ ok2 p.2) := by
  intro H enc W n cs xs hl hx hw
  cases xs with
  | nil => simp at hl
  | cons x xs =>
    have e0 := hx 0 f rfl
    rw [ho, hk] at e0
    obtain ⟨y, k1, k2⟩ := h1 H enc W n _ x.1 x.2 e0 (fun z hz => hw z (by simp only [List.map_cons, DataW.weightsEach, List.mem_append]; exact .inl hz))
    obtain ⟨z, k3, k4⟩ := h2 H enc W n cs xs (by simpa using hl) (fun i g hg => by have := hx (i + 1) g (by simpa using hg); simpa using this) (fun z hz => hw z (by simp only [List.map_cons, DataW.weightsEach, List.mem_append]; exact .inr hz))
    refine ⟨(y, z), ⟨k1, k3⟩, ?_⟩
    rw [List.take_add, List.drop_drop]
    exact k2.append k4
theorem opensFs_1 {f : Field} {fs : List Field} {o m : Nat} {α β : Type} {en1 : α → List PV} {ok1 : α → Prop} {en2 : β → List PV} {ok2 : β → Prop} (ho : f.offset = o) (h1 : Opens P f.type en1 ok1) (hk : P.cellsOf f.type = 1) (h2 : OpensFs P fs (o + 1) m en2 ok2) :
    OpensFs P (f :: fs) o (m + 1) (fun p : α × β => en1 p.1 ++ en2 p.2) (fun p => ok1 p.1 ∧ ok2 p.2) := by
  rw [Nat.add_comm m 1]; exact opensFs_cons ho hk h1 h2
theorem opens_struct {fs : Array Field} {m : Nat} {α : Type} {en : α → List PV} {ok : α → Prop} (ht : P.underlying t = some (.struct fs)) (hf : OpensFs P fs.toList 0 m en ok) (hc : P.cellsOf t = m) : Opens P t en ok := by
  intro H enc W fuel cs d pl h hw
  obtain ⟨xs, n, rfl, hx, h3, h4, h5⟩ := DataW.trod_struct ht h
  cases hx
  obtain ⟨y, k1, k2⟩ := hf H enc W n cs xs (by simpa using h4) (fun i f hf => h5 i f (by simpa using hf)) (fun z hz => hw z (by simpa only [DataW.weights, ht] using hz))
  refine ⟨y, k1, ?_⟩
  rwa [List.drop_zero, List.take_of_length_le (by omega)] at k2

/-- An argument. -/
def ArgOpens (P : Program) (t : TypeId) {α : Type} (pe : α → PV) (ok : α → Prop) : Prop :=
  ∀ (H : Type) (enc : TypeId × Value → H) (W : World) (base : Nat) (v : Value) (d : DataW H) (pl : List MemPlace), Value.okWide P W .any base t v → DataW.Trod enc P W 0 (fun _ => true) true t v d pl → (∀ n ∈ d.weights P t, n ≤ reachBytes) → ∃ y : α, ok y ∧ Rep (immW W) mu0 (pe y) v
theorem repL_one1 {Φ : Imm} {μ : Nat → Option Nat} {p : PV} {v : Value} (h : RepL Φ μ [p] [v]) : Rep Φ μ p v := h.2 0 p v rfl rfl
theorem arg_int {k : IntKind} (ht : P.underlying t = some (.int k)) : ArgOpens P t (fun z : Int => .val (.int k z)) (fun z => (Lit.int k z).wf = true) := by
  intro H enc W base v d pl hv ⟨fuel, h⟩ hw
  obtain ⟨z, rfl⟩ := okWide_int ht hv
  obtain ⟨y, k1, k2⟩ := opens_int ht H enc W fuel _ d pl h hw
  exact ⟨y, k1, repL_one1 k2⟩
theorem arg_str (ht : P.underlying t = some .string) : ArgOpens P t (fun z : ByteArray => .val (.string z)) (fun z => z.size ≤ reachBytes) := by
  intro H enc W base v d pl hv ⟨fuel, h⟩ hw
  obtain ⟨z, rfl⟩ := okWide_string ht hv
  obtain ⟨y, k1, k2⟩ := opens_str ht H enc W fuel _ d pl h hw
  exact ⟨y, k1, repL_one1 k2⟩
theorem arg_slice {α : Type} {pe : α → PV} {ok : α → Prop} (ht : P.underlying t = some (.slice e)) (h0 : Opens P t (fun x => [pe x]) ok) : ArgOpens P t pe ok := by
  intro H enc W base v d pl hv ⟨fuel, h⟩ hw
  obtain ⟨a, l, c, rfl⟩ := okWide_slice ht hv
  obtain ⟨y, k1, k2⟩ := h0 H enc W fuel _ d pl h hw
  exact ⟨y, k1, repL_one1 k2⟩
theorem arg_struct {fs : Array Field} {α : Type} {en : α → List PV} {ok : α → Prop} (ht : P.underlying t = some (.struct fs)) (h0 : Opens P t en ok) : ArgOpens P t (fun x => .agg (en x)) ok := by
  intro H enc W base v d pl hv ⟨fuel, h⟩ hw
  obtain ⟨cs, rfl, -⟩ := okWide_struct ht hv
  obtain ⟨y, k1, k2⟩ := h0 H enc W fuel _ d pl h hw
  refine ⟨y, k1, ?_⟩
  have := k2.agg
  simpa [Value.cells] using this
theorem ArgOpens.map {α β : Type} {pe : α → PV} {ok : α → Prop} (h : ArgOpens P t pe ok) (g : α → β) {pe' : β → PV} {ok' : β → Prop} (hen : ∀ a, ok a → pe' (g a) = pe a) (hok : ∀ a, ok a → ok' (g a)) : ArgOpens P t pe' ok' := by
  intro H enc W base v d pl h0 h1 h2
  obtain ⟨y, k1, k2⟩ := h H enc W base v d pl h0 h1 h2
  exact ⟨g y, hok y k1, by rw [hen y k1]; exact k2⟩

/-- All arguments. -/
def ArgsOpen (P : Program) (ts : List TypeId) {α : Type} (en : α → List PV) (ok : α → Prop) : Prop :=
  ∀ (H : Type) (enc : TypeId × Value → H) (W : World) (base : Nat) (vs : List Value) (ds : List (DataW H)) (pl : List MemPlace), (∀ (j : Nat) t v, ts[j]? = some t → vs[j]? = some v → Value.okWide P W .any base t v) → DataW.TrodAll enc P W 0 (fun _ => true) true ts vs ds pl →
    (∀ n ∈ DataW.weightsEach P ts ds, n ≤ reachBytes) → ds.length = ts.length ∧ ∃ y : α, ok y ∧ RepL (immW W) mu0 (en y) vs
theorem argsOpen_nil : ArgsOpen P [] (fun _ : Unit => []) (fun _ => True) := by
  intro H enc W base vs ds pl _ h _
  obtain ⟨rfl, rfl, rfl⟩ := trodAll_nil h
  exact ⟨rfl, (), trivial, RepL.nil⟩
theorem argsOpen_cons {ts : List TypeId} {α β : Type} {pe : α → PV} {ok1 : α → Prop} {en : β → List PV} {ok2 : β → Prop} (h1 : ArgOpens P t pe ok1) (h2 : ArgsOpen P ts en ok2) : ArgsOpen P (t :: ts) (fun p : α × β => pe p.1 :: en p.2) (fun p => ok1 p.1 ∧ ok2 p.2) := by
  intro H enc W base vs ds pl hv h hw
  match vs, ds, h with
  | v :: vs, d :: ds, h =>
    obtain ⟨p, q, g1, g2, -⟩ := h
    obtain ⟨y, k1, k2⟩ := h1 H enc W base v d p (hv 0 t v rfl rfl) g1 (fun z hz => hw z (by simp only [DataW.weightsEach, List.mem_append]; exact .inl hz))
    obtain ⟨hl, z, k3, k4⟩ := h2 H enc W base vs ds q (fun j t v e1 e2 => hv (j + 1) t v (by simpa using e1) (by simpa using e2)) g2 (fun z hz => hw z (by simp only [DataW.weightsEach, List.mem_append]; exact .inr hz))
    exact ⟨by simp [hl], (y, z), ⟨k1, k3⟩, RepL.cons k2 k4⟩
  | [], [], h => simp [DataW.TrodAll] at h
  | [], _ :: _, h => simp [DataW.TrodAll] at h
  | _ :: _, [], h => simp [DataW.TrodAll] at h
end

set_option maxRecDepth 100000 in
/-- A law's row: its contract over pure values is all that is wanted. -/
theorem law_lifted {f : FuncId} {fn : Func} {s : ChangeSpec} {conds : List PathCond} {tb : TypeId} {α : Type} {en : α → List PV} {ok : α → Prop} (os : Os) (started : os.Started) (H : Type) (enc : TypeId × Value → H) (hfn : Tryd.checked.prog.funcs[f]? = some fn) (noInit : Tryd.checked.prog.inits.idxOf? f = none)
    (witness : ∃ (w : World) (tape : Tape) (i : Input), w.os = os ∧ (w.forCall tape i).Shaped Tryd.checked.prog ∧ i.vars = [] ∧ Input.okWide Tryd.checked.prog (w.forCall tape i) .any w.heap.size f i ∧
      s.pre6 enc Tryd.checked.prog fn conds false (w.forCall tape i).memory i.args ∧ ({} : Assume).holds Tryd.checked.prog (lone (Frame.enter Tryd.checked.prog f i.args .normal) [] (w.forCall tape i)))
    (htb : Tryd.prog.underlying tb = some .bool) (hres : fn.resultTypes = #[tb]) (hvars : s.vars = []) (hread : fn.params.toList.all (fun t => Tryd.prog.readableRec t && decide (t < Tryd.prog.types.size)) = true)
    (hspec : ∀ ds : List (DataW H), ds.length = fn.params.size → (s.fn H (ds ++ [])).results = [.lit (.bool true)] ∧ (s.fn H (ds ++ [])).args = ds ∧ (s.fn H (ds ++ [])).vars = [])
    (hargs : ArgsOpen Tryd.prog fn.params.toList en ok) (hc : ∀ y, ok y → PCalls Tryd.prog f (en y) (· = pbool true)) (hgt : globTab = [] := by rfl) :
    ReturnsInHanded {} Tryd.checked os f .any (s.pre6 enc Tryd.prog fn conds false) (s.post enc Tryd.prog fn false true false false) := by
  refine returnsInHanded_of_change_sized (C := Tryd.checked) own started noInit hfn witness ?_
  intro W base args ds gs before hval0 hW _ hsz _
  have hval : ∀ (j : Nat) t v, fn.params[j]? = some t → args[j]? = some v → Value.okWide Tryd.prog W .any base t v := hval0
  have hW' := hW
  obtain ⟨p, q, hA, hV, rfl, _, _⟩ := hW
  rw [hvars] at hV
  obtain ⟨rfl, rfl⟩ := trodVars_none hV
  have hvt : s.plain.varTypes Tryd.prog = [] := by simp [ChangeSpec.plain, DataSpec.varTypes, hvars]
  rw [show s.plain.varTypes Tryd.checked.prog = [] from hvt, List.append_nil, List.append_nil, List.all_eq_true] at hsz
  obtain ⟨hl, y, hy, hr⟩ := hargs H enc W base args.toList ds p (fun j t v h1 h2 => hval j t v (by simpa using h1) (by simpa using h2)) hA (fun n hn => of_decide_eq_true (hsz n hn))
  obtain ⟨s1, s2, s3⟩ := hspec ds (by simpa using hl)
  have hcall := (hc y hy).2 (immW W) mu0 W args.toList (fun b o u h => h) (fun x hx => by rw [hgt] at hx; cases hx) hr
  rw [Array.toArray_toList] at hcall
  refine hcall.mono ?_
  rintro e W' ⟨r, v, Φ', rfl, rfl, hrep, -, -, hb, -⟩
  obtain ⟨rfl, -⟩ := hrep.val_inv
  exact ⟨_, rfl, post_law laidOut htb hres hvars hread hW' s1 s2 s3 hb⟩

set_option maxRecDepth 100000 in
/-- The same where the row lists tables. -/
theorem law_liftedL {f : FuncId} {fn : Func} {s : ChangeSpec} {conds : List PathCond} {tb : TypeId} {α : Type} {en : α → List PV} {ok : α → Prop} {laid : List (String × DataW Unit)} (os : Os) (started : os.Started) (H : Type) (enc : TypeId × Value → H) (hfn : Tryd.checked.prog.funcs[f]? = some fn) (noInit : Tryd.checked.prog.inits.idxOf? f = none)
    (witness : ∃ (w : World) (tape : Tape) (i : Input), w.os = os ∧ (w.forCall tape i).Shaped Tryd.checked.prog ∧ i.vars = [] ∧ Input.okWide Tryd.checked.prog (w.forCall tape i) .any w.heap.size f i ∧
      ((s.pre enc Tryd.checked.prog fn conds false (w.forCall tape i).memory i.args ∧ laidMetH Tryd.prog laid (w.forCall tape i).memory) ∧ sizedMet enc Tryd.checked.prog fn (OpenSpec.ofChange s) false (w.forCall tape i).memory i.args) ∧ ({} : Assume).holds Tryd.checked.prog (lone (Frame.enter Tryd.checked.prog f i.args .normal) [] (w.forCall tape i)))
    (htb : Tryd.prog.underlying tb = some .bool) (hres : fn.resultTypes = #[tb]) (hvars : s.vars = []) (hread : fn.params.toList.all (fun t => Tryd.prog.readableRec t && decide (t < Tryd.prog.types.size)) = true)
    (hspec : ∀ ds : List (DataW H), ds.length = fn.params.size → (s.fn H (ds ++ [])).results = [.lit (.bool true)] ∧ (s.fn H (ds ++ [])).args = ds ∧ (s.fn H (ds ++ [])).vars = [])
    (hargs : ArgsOpen Tryd.prog fn.params.toList en ok) (hc : ∀ y, ok y → PCalls Tryd.prog f (en y) (· = pbool true))
    (hglob : ∀ W, laidMetH Tryd.prog laid W → ∀ x ∈ globTab, ∀ j z, x.2.2[j]? = some z → W.cell? ⟨x.1, j, none⟩ = some (.int x.2.1 z)) :
    ReturnsInHanded {} Tryd.checked os f .any (fun w args => (s.pre enc Tryd.prog fn conds false w args ∧ laidMetH Tryd.prog laid w) ∧ sizedMet enc Tryd.prog fn (OpenSpec.ofChange s) false w args) (s.post enc Tryd.prog fn false true false false) := by
  refine returnsInHanded_of_change_and (C := Tryd.checked) (X := fun w _ => laidMetH Tryd.prog laid w) (fun _ _ _ hh h => h.of_heap hh) own started noInit hfn witness ?_
  intro W base args ds gs before hval0 hW _ hsz hL _
  have hval : ∀ (j : Nat) t v, fn.params[j]? = some t → args[j]? = some v → Value.okWide Tryd.prog W .any base t v := hval0
  have hW' := hW
  obtain ⟨p, q, hA, hV, rfl, _, _⟩ := hW
  rw [hvars] at hV
  obtain ⟨rfl, rfl⟩ := trodVars_none hV
  have hvt : s.plain.varTypes Tryd.prog = [] := by simp [ChangeSpec.plain, DataSpec.varTypes, hvars]
  rw [show s.plain.varTypes Tryd.checked.prog = [] from hvt, List.append_nil, List.append_nil, List.all_eq_true] at hsz
  obtain ⟨hl, y, hy, hr⟩ := hargs H enc W base args.toList ds p (fun j t v h1 h2 => hval j t v (by simpa using h1) (by simpa using h2)) hA (fun n hn => of_decide_eq_true (hsz n hn))
  obtain ⟨s1, s2, s3⟩ := hspec ds (by simpa using hl)
  have hcall := (hc y hy).2 (immW W) mu0 W args.toList (fun b o u h => h) (hglob W hL) hr
  rw [Array.toArray_toList] at hcall
  refine hcall.mono ?_
  rintro e W' ⟨r, v, Φ', rfl, rfl, hrep, -, -, hb, -⟩
  obtain ⟨rfl, -⟩ := hrep.val_inv
  exact ⟨_, rfl, post_law laidOut htb hres hvars hread hW' s1 s2 s3 hb⟩

/-- A listed table of integers: its cells. -/
theorem glob_of_reads {P : Program} {W : World} {n : String} {k : IntKind} {zs : List Int} {g : Nat} {t e : TypeId} {m : Nat} (hg : P.globalNamed n = some g) (hty : (P.globals[g]?).map (·.type) = some t) (ht : P.underlying t = some (.array m e)) (he : P.underlying e = some (.int k)) (hce : P.cellsOf e = 1) (hct : P.cellsOf t = m) (h : Lib.VarReads P W n (Lib.tabData k zs)) : ∀ j z, zs[j]? = some z → W.cell? ⟨g, j, none⟩ = some (.int k z) := by
  obtain ⟨g', t', cs, fuel, p, h1, h2, h3, h4⟩ := h
  obtain rfl := Option.some.inj (hg.symm.trans h1)
  obtain rfl := Option.some.inj (hty.symm.trans h2)
  have hc := Lib.cells_of_tab ht he hce hct h4
  intro j z hz
  have := World.var?_cell hg h3 j
  rw [this]
  have hcs : cs[j]? = cs.toList[j]? := by simp
  rw [hcs, hc]
  simp [hz]
end Go.Proofs.YtilcpcpmkklobaaDoor

/- Arguments that hold arrays. -/
namespace Go.Proofs.YtilcpcpmkklobaaDoor
set_option linter.unusedSimpArgs false
set_option linter.unusedVariables false
set_option linter.unnecessarySimpa false
open Go.ChangeShapes Go.WideShapes Go.ChangeAt Go.RowKit

section
variable {P : Program} {t e : TypeId}
theorem opens_array {n : Nat} {α : Type} {en : α → List PV} {ok : α → Prop} {k : Nat} (ht : P.underlying t = some (.array n e)) (hc : P.cellsOf e = k) (hct : P.cellsOf t = n * k) (he : Opens P e en ok) :
    Opens P t (fun xs : List α => xs.flatMap en) (fun xs => (∀ x ∈ xs, ok x) ∧ xs.length = n) := by
  intro H enc W fuel cs d pl h hw
  obtain ⟨xs, m, rfl, hx, hl, hxl, hel⟩ := DataW.trod_array ht h
  cases hx
  have key : ∀ j, j ≤ n → ∃ ys : List α, ys.length = j ∧ (∀ y ∈ ys, ok y) ∧ RepL (immW W) mu0 (ys.flatMap en) (cs.take (j * k)) := by
    intro j
    induction j with
    | zero => exact fun _ => ⟨[], rfl, by simp, by simpa using RepL.nil⟩
    | succ j ih =>
      intro hj
      obtain ⟨ys, h1, h2, h3⟩ := ih (by omega)
      have hj' := hel j (by omega)
      obtain ⟨x, hxj⟩ : ∃ x, xs[j]? = some x := ⟨_, List.getElem?_eq_getElem (by omega)⟩
      rw [hxj, hc] at hj'
      obtain ⟨y, k1, k2⟩ := he H enc W m _ x.1 x.2 hj' (fun z hz => by
        refine hw z ?_
        simp only [DataW.weights, ht]
        exact weights_mem (List.mem_map.2 ⟨x, List.mem_of_getElem? hxj, rfl⟩) z hz)
      refine ⟨ys ++ [y], by simp [h1], fun z hz => ?_, ?_⟩
      · rcases List.mem_append.1 hz with hz | hz
        · exact h2 z hz
        · simp at hz; subst hz; exact k1
      · rw [List.flatMap_append, Nat.succ_mul, List.take_add]
        refine h3.append ?_
        simpa using k2
  obtain ⟨ys, h1, h2, h3⟩ := key n (Nat.le_refl _)
  refine ⟨ys, ⟨h2, h1⟩, ?_⟩
  rwa [List.take_of_length_le (by rw [hl, hct]; exact Nat.le_refl _)] at h3
end
end Go.Proofs.YtilcpcpmkklobaaDoor

/- The arguments of the laws of the journal, opened. -/
namespace Go.Proofs.YtilcpcpmkklobaaDoor
set_option linter.unusedSimpArgs false
set_option linter.unusedVariables false
set_option linter.unnecessarySimpa false
open Go.ChangeShapes Go.WideShapes Go.ChangeAt Go.RowKit

def FitI (z : Int) : Prop := -9223372036854775808 ≤ z ∧ z ≤ 9223372036854775807
theorem wfI {z : Int} (h : (Lit.int .i64 z).wf = true) : FitI z := by
  simp [Lit.wf, IntKind.min, IntKind.max, IntKind.signed, IntKind.bits] at h
  exact ⟨by omega, by omega⟩
theorem wfB {z : Int} (h : (Lit.int .u8 z).wf = true) : 0 ≤ z ∧ z < 256 := by
  simp [Lit.wf, IntKind.min, IntKind.max, IntKind.signed, IntKind.bits] at h
  exact ⟨by omega, by omega⟩
theorem flatMap_1 {α : Type} (f : α → PV) (l : List α) : l.flatMap (fun x => [f x]) = l.map f := by
  induction l with
  | nil => rfl
  | cons x l ih => simp [ih]
theorem opensI : Opens Tryd.prog 3 (fun z => [pint z]) FitI := (opens_int Tryd.underlying3).map id (fun _ _ => rfl) (fun _ h => wfI h)
theorem opensB : Opens Tryd.prog 5 (fun z => [pbyte z]) (fun z => 0 ≤ z ∧ z < 256) := (opens_int Tryd.underlying5).map id (fun _ _ => rfl) (fun _ h => wfB h)
def toSec (l : List Int) : Sec := if h : l.length = 64 ∧ ∀ x ∈ l, 0 ≤ x ∧ x < 256 then ⟨l, h⟩ else zeroSec
theorem toSec_eq {l : List Int} (h : l.length = 64 ∧ ∀ x ∈ l, 0 ≤ x ∧ x < 256) : toSec l = ⟨l, h⟩ := dif_pos h
theorem opensSec : Opens Tryd.prog 53 secL (fun _ => True) :=
  (opens_array (n := 64) (k := 1) Tryd.underlying53 (by kernel_rfl) (by kernel_rfl) opensB).map toSec (fun a h => by
    rw [flatMap_1, toSec_eq ⟨h.2, h.1⟩]; rfl) (fun _ _ => trivial)
theorem opensPut : Opens Tryd.prog 59 putL (fun p => FitI p.sec) :=
  (opens_struct Tryd.underlying59 (opensFs_1 rfl opensI (by kernel_rfl) (opensFs_cons (k := 64) rfl (by kernel_rfl) opensSec opensFs_nil)) (by kernel_rfl)).map
    (fun p => (⟨p.1, p.2.1⟩ : PPut)) (fun p _ => by
      show pint p.1 :: secL p.2.1 = pint p.1 :: (secL p.2.1 ++ [])
      rw [List.append_nil]) (fun _ h => h.1)
theorem opensPuts : Opens Tryd.prog 36 (fun l => [pputs l]) (fun l => (∀ p ∈ l, FitI p.sec) ∧ l.length * 72 ≤ reachBytes) :=
  (opens_slice Tryd.underlying36 (by kernel_rfl) (by decide) (by kernel_rfl) opensPut (fun p _ => putL_len p)).map id (fun _ _ => rfl) (fun _ h => h)
theorem opensPutss : Opens Tryd.prog 24 (fun l => [pputss l]) (fun ls => (∀ l ∈ ls, (∀ p ∈ l, FitI p.sec) ∧ l.length * 72 ≤ reachBytes) ∧ ls.length * 24 ≤ reachBytes) :=
  (opens_slice Tryd.underlying24 (by kernel_rfl) (by decide) (by kernel_rfl) opensPuts (fun _ _ => rfl)).map id (fun a _ => by show [pputss a] = _; rw [flatMap_1]; rfl) (fun _ h => h)
theorem argPutss : ArgOpens Tryd.prog 24 pputss (fun ls => (∀ l ∈ ls, (∀ p ∈ l, FitI p.sec) ∧ l.length * 72 ≤ reachBytes) ∧ ls.length * 24 ≤ reachBytes) := arg_slice Tryd.underlying24 opensPutss
theorem argPuts : ArgOpens Tryd.prog 36 pputs (fun l => (∀ p ∈ l, FitI p.sec) ∧ l.length * 72 ≤ reachBytes) := arg_slice Tryd.underlying36 opensPuts
def pareaT (x : Int × Int × Int) : PV := .agg (parea x.1 x.2.1 x.2.2)
theorem argArea : ArgOpens Tryd.prog 23 pareaT (fun x => FitI x.1 ∧ FitI x.2.1 ∧ FitI x.2.2) :=
  (arg_struct Tryd.underlying23 (opens_struct Tryd.underlying23 (opensFs_1 rfl opensI (by kernel_rfl) (opensFs_1 rfl opensI (by kernel_rfl) (opensFs_1 rfl opensI (by kernel_rfl) opensFs_nil))) (by kernel_rfl))).map
    (fun p => (p.1, p.2.1, p.2.2.1)) (fun _ _ => rfl) (fun _ h => ⟨h.1, h.2.1, h.2.2.1⟩)
theorem opensBs : Opens Tryd.prog 37 (fun l => [pbytes l]) (fun l => (∀ z ∈ l, 0 ≤ z ∧ z < 256) ∧ l.length * 1 ≤ reachBytes) :=
  (opens_slice Tryd.underlying37 (by kernel_rfl) (by decide) (by kernel_rfl) opensB (fun _ _ => rfl)).map id (fun a _ => by show [pbytes a] = _; rw [flatMap_1]; rfl) (fun _ h => h)
theorem argBs : ArgOpens Tryd.prog 37 pbytes (fun l => (∀ z ∈ l, 0 ≤ z ∧ z < 256) ∧ l.length * 1 ≤ reachBytes) := arg_slice Tryd.underlying37 opensBs
theorem reachE : reachBytes = 140737488351232 := rfl
end Go.Proofs.YtilcpcpmkklobaaDoor
