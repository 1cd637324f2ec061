/- Merged: Pg, Ph, Pi, Hj, Hk, Pj, Hl, Row, Opens, Row13, Laid. -/
import Derived.ProofKit
import Derived.OpenShut
import Derived.SizedLaws
import Derived.Deep.Slices
import Derived.Lib.LaidU8
import Derived.LaidMore
import Derived.LaidLaws
import Derived.Stop.Joined
import Derived.MakeChecks
import Derived.Test.YtnjopfjmepbpoaaDoorRows
import Derived.Test.YtnjopfjmepbpoaaDoorC5
/- Pure walks: slices.Equal of attributes, Same of attr, equal of the law. -/
namespace Go.Proofs.YtnjopfjmepbpoaaDoor
set_option linter.unusedSimpArgs false
set_option linter.unusedVariables false
set_option linter.unnecessarySimpa false
open Go.RowKit

theorem attr_row {l : List PAttr} {k : Nat} {a : PAttr} (h : l[k]? = some a) : (((l.flatMap pattrL).drop (k * 4)).take 4).map PV.bare = pattrL a := by
  rw [flatMap_row (f := pattrL) (k := 4) (fun _ => rfl) h]; rfl

set_option maxRecDepth 10000 in
set_option maxHeartbeats 1000000 in
theorem pw_equalA (l r : List PAttr) (hl : l.length ≤ 1000000000000) (hr : r.length ≤ 1000000000000) : PCalls Tryd.prog 42 [pattrs l, pattrs r] (· = pbool (decide (l = r))) := by
  refine pcalls_of_pw typeTab_ok Tryd.func42 rfl (by kernel_rfl) (by exact lw) (by simp [pattrs, PV.ownB]) (by rw [Tryd.ntmps42]; simp) ?_
  rw [Tryd.ntmps42, Tryd.results42]
  have fl := flatMap_len (f := pattrL) (k := 4) (fun _ => rfl) l
  have fr := flatMap_len (f := pattrL) (k := 4) (fun _ => rfl) r
  by_cases hlen : l.length = r.length
  · refine wk ?_
    refine PW.loop (fun k : Nat => ((((bot.put 0 (pattrs l)).put 1 (pattrs r)).put 4 (pbool false)).put 12 (pint l.length)).put 13 (pint k)) (fun k => k ≤ l.length ∧ l.take k = r.take k) (fun k => l.length - k) 0 ⟨by omega, by simp⟩ ?_ ?_
    · exact sb
    · rintro k ⟨hk, heq⟩
      by_cases hlt : k < l.length
      · obtain ⟨x, hx⟩ := ints_get l k hlt
        obtain ⟨y, hy⟩ := ints_get r k (by omega)
        have hx' := attr_row hx
        have hy' := attr_row hy
        by_cases hxy : x = y
        · have hne : (!(x.name == y.name && (x.kind == y.kind && (x.n == y.n && (x.s == y.s && true))))) = false := by
            have := (eqAttrB_iff x y).2 hxy; simp only [eqAttrB] at this; rw [this]; rfl
          refine wk ?_
          refine loopP (k + 1) ⟨by omega, ?_⟩ (by omega) ?_
          · rw [List.take_add_one, List.take_add_one, heq, hx, hy, hxy]
          · exact sb
        · have hne : (!(x.name == y.name && (x.kind == y.kind && (x.n == y.n && (x.s == y.s && true))))) = true := by
            have : eqAttrB x y = false := by
              cases h : eqAttrB x y with
              | false => rfl
              | true => exact absurd ((eqAttrB_iff x y).1 h) hxy
            simp only [eqAttrB] at this; rw [this]; rfl
          refine wk ?_
          refine retP rfl (by exact lw) ?_
          have : l ≠ r := by rintro rfl; rw [hx] at hy; simp at hy; exact hxy hy
          simp [pbool, this]
      · refine wk ?_
        refine retP rfl (by exact lw) ?_
        have : l = r := by rw [List.take_of_length_le (by omega), List.take_of_length_le (by omega)] at heq; exact heq
        simp [pbool, this]
  · refine wk ?_
    refine retP rfl (by exact lw) ?_
    have : l ≠ r := by rintro rfl; exact hlen rfl
    simp [pbool, this]

def numL (e : PEntry) : List PV := [pint e.id, pint e.ver, pint e.owner, pint e.filed, pint e.frm, pint e.to, pint e.born]
set_option maxRecDepth 10000 in
set_option maxHeartbeats 1000000 in
theorem pw_numbers (x : PEntry) : PCalls Tryd.prog 40 [pentry x] (· = .agg (numL x)) := by
  refine pcalls_of_pw typeTab_ok Tryd.func40 rfl (by kernel_rfl) (by exact lw) (by simp [pentry, PV.ownB]) (by rw [Tryd.ntmps40]; simp) ?_
  rw [Tryd.ntmps40, Tryd.results40]
  refine wk ?_
  refine retP rfl (by exact lw) rfl

def numB (x y : PEntry) : Bool := x.id == y.id && (x.ver == y.ver && (x.owner == y.owner && (x.filed == y.filed && (x.frm == y.frm && (x.to == y.to && (x.born == y.born && true))))))
theorem same_iff (x y : PEntry) : x = y ↔ numB x y = true ∧ x.vec = y.vec ∧ x.attrs = y.attrs := by
  obtain ⟨a1, a2, a3, a4, a5, a6, a7, a8, a9⟩ := x
  obtain ⟨b1, b2, b3, b4, b5, b6, b7, b8, b9⟩ := y
  simp [numB]
  constructor
  · rintro ⟨h1, h2, h3, h4, h5, h6, h7, h8, h9⟩; exact ⟨⟨h1, h2, h3, h4, h5, h6, h7⟩, h8, h9⟩
  · rintro ⟨⟨h1, h2, h3, h4, h5, h6, h7⟩, h8, h9⟩; exact ⟨h1, h2, h3, h4, h5, h6, h7, h8, h9⟩

instance : DecidableEq PEntry := fun x y => decidable_of_iff _ (same_iff x y).symm

set_option maxRecDepth 10000 in
set_option maxHeartbeats 1000000 in
theorem pw_attrSame (x y : PEntry) (h1 : x.vec.length ≤ 1000000000) (h2 : y.vec.length ≤ 1000000000) (h3 : x.attrs.length ≤ 1000000000) (h4 : y.attrs.length ≤ 1000000000) : PCalls Tryd.prog 14 [pentry x, pentry y] (· = pbool (decide (x = y))) := by
  refine pcalls_of_pw typeTab_ok Tryd.func14 rfl (by kernel_rfl) (by exact lw) (by simp [pentry, PV.ownB]) (by rw [Tryd.ntmps14]; simp) ?_
  rw [Tryd.ntmps14, Tryd.results14]
  have c1 := pw_numbers x
  have c2 := pw_numbers y
  have c3 := pw_equalI x.vec y.vec (by omega) (by omega)
  have c4 := pw_equalA x.attrs y.attrs (by omega) (by omega)
  by_cases hn : numB x y = true
  · simp only [numB] at hn
    by_cases hv : x.vec = y.vec
    · rw [decide_eq_true hv] at c3
      by_cases ha : x.attrs = y.attrs
      · rw [decide_eq_true ha] at c4
        refine wk ?_
        refine retP rfl (by exact lw) ?_
        rw [decide_eq_true ((same_iff x y).2 ⟨hn, hv, ha⟩)]; rfl
      · rw [decide_eq_false ha] at c4
        refine wk ?_
        refine retP rfl (by exact lw) ?_
        rw [decide_eq_false (fun e => ha ((same_iff x y).1 e).2.2)]; rfl
    · rw [decide_eq_false hv] at c3
      refine wk ?_
      refine retP rfl (by exact lw) ?_
      rw [decide_eq_false (fun e => hv ((same_iff x y).1 e).2.1)]; rfl
  · have hn' : numB x y = false := by simpa using hn
    simp only [numB] at hn'
    refine wk ?_
    refine retP rfl (by exact lw) ?_
    rw [decide_eq_false (fun e => hn ((same_iff x y).1 e).1)]; rfl
end Go.Proofs.YtnjopfjmepbpoaaDoor

/- Pure walks: the example of the law, its sanity. -/
namespace Go.Proofs.YtnjopfjmepbpoaaDoor
set_option linter.unusedSimpArgs false
set_option linter.unusedVariables false
set_option linter.unnecessarySimpa false
open Go.RowKit

def nColour : ByteArray := ⟨#[99, 111, 108, 111, 117, 114]⟩
def nWeight : ByteArray := ⟨#[119, 101, 105, 103, 104, 116]⟩
def nBlue : ByteArray := ⟨#[98, 108, 117, 101]⟩
def nRed : ByteArray := ⟨#[114, 101, 100]⟩
def nSize : ByteArray := ⟨#[115, 105, 122, 101]⟩
def nGreen : ByteArray := ⟨#[103, 114, 101, 101, 110]⟩
def exS : PSchema := ⟨2, 1, [⟨nColour, 2, 0, 0, [nBlue, nRed]⟩, ⟨nWeight, 1, 0, 9, []⟩]⟩
def exRed : PAttr := ⟨nColour, 2, 0, nRed⟩
def exThree : PAttr := ⟨nWeight, 1, 3, ByteArray.empty⟩
def exE : PEntry := ⟨1, 1, 1, 5, 7, 9, 1, [1, 2], [exRed]⟩
def exEarly : PEntry := ⟨1, 1, 1, 5, 4, 9, 1, [1, 2], [exRed]⟩
def exShort : PEntry := ⟨1, 1, 1, 5, 7, 9, 1, [1], [exRed]⟩
theorem v1 : checkE exS = 0 := by kernel_rfl
theorem v2 : checkE ⟨2, 0, []⟩ = 1 := by kernel_rfl
theorem v3 : fitsGo exS.defs ByteArray.empty false [exRed, exThree] = 0 := by kernel_rfl
theorem v4 : fitsGo exS.defs ByteArray.empty false [exThree, exRed] = 6 := by kernel_rfl
theorem v5 : fitsGo exS.defs ByteArray.empty false [⟨nSize, 1, 1, ByteArray.empty⟩] = 5 := by kernel_rfl
theorem v6 : fitsGo exS.defs ByteArray.empty false [⟨nColour, 1, 3, ByteArray.empty⟩] = 130 := by kernel_rfl
theorem v7 : fitsGo exS.defs ByteArray.empty false [⟨nWeight, 1, 10, ByteArray.empty⟩] = 131 := by kernel_rfl
theorem v8 : fitsGo exS.defs ByteArray.empty false [⟨nColour, 2, 0, nGreen⟩] = 131 := by kernel_rfl
theorem v9 : getA exE.attrs nColour = (exRed, true) := by kernel_rfl
theorem v10 : entryA exS exE = 0 := by kernel_rfl
theorem v11 : entryA exS exEarly = 9 := by kernel_rfl
theorem v12 : entryA exS exShort = 40 := by kernel_rfl
theorem v13 : nameB ⟨#[97, 95, 49]⟩ = true := by kernel_rfl
theorem v14 : nameB ⟨#[49, 97]⟩ = false := by kernel_rfl
theorem v15 : nameB ⟨#[105, 110]⟩ = false := by kernel_rfl

theorem weak_exS : Weak (.agg [pint 2, pint 1, .sl 2 5 [pstr nColour, pint 2, pint 0, pint 0, .sl 2 1 [pstr nBlue, pstr nRed] none, pstr nWeight, pint 1, pint 0, pint 9, .nilsl] none]) (pschema exS) :=
  .agg (.cons (.refl _) (.cons (.refl _) (.cons (.sl (.cons (.refl _) (.cons (.refl _) (.cons (.refl _) (.cons (.refl _) (.cons (.refl _) (.cons (.refl _) (.cons (.refl _) (.cons (.refl _) (.cons (.refl _) (.cons (.nil 1) .nil))))))))))) .nil)))

set_option maxRecDepth 10000 in
set_option maxHeartbeats 1000000 in
theorem pw_example : PCalls Tryd.prog 22 [] (· = pschema exS) := by
  refine PCalls.weak ?_
  refine pcalls_of_pw typeTab_ok Tryd.func22 rfl (by kernel_rfl) (by simp) (by simp) (by rw [Tryd.ntmps22]; simp) ?_
  rw [Tryd.ntmps22, Tryd.results22]
  refine wk ?_
  refine retP rfl ?_ weak_exS
  simp [low_agg, low_pint, low_sl, low_val, low_nilsl]

end Go.Proofs.YtnjopfjmepbpoaaDoor

/- Pure walks: sanity of the law; equal. -/
namespace Go.Proofs.YtnjopfjmepbpoaaDoor
set_option linter.unusedSimpArgs false
set_option linter.unusedVariables false
set_option linter.unnecessarySimpa false
open Go.RowKit

theorem small_exS : SmallS exS := FewS.small ⟨by decide, by
  intro d hd
  simp only [exS, List.mem_cons, List.not_mem_nil, or_false] at hd
  rcases hd with rfl | rfl
  · exact ⟨by decide, by decide, by intro x hx; simp only [List.mem_cons, List.not_mem_nil, or_false] at hx; rcases hx with rfl | rfl <;> decide⟩
  · exact ⟨by decide, by decide, by intro x hx; simp at hx⟩⟩
theorem small_none : SmallS ⟨2, 0, []⟩ := FewS.small ⟨by decide, by intro d hd; simp at hd⟩
theorem fit_small (z : Int) (h1 : -1000000 ≤ z) (h2 : z ≤ 1000000) : Fit64 z := ⟨by omega, by omega⟩
theorem fit_exE : FitE exE :=
  ⟨fit_small _ (by decide) (by decide), fit_small _ (by decide) (by decide), fit_small _ (by decide) (by decide), fit_small _ (by decide) (by decide), fit_small _ (by decide) (by decide), fit_small _ (by decide) (by decide), fit_small _ (by decide) (by decide),
    fun z hz => by
      simp only [exE, List.mem_cons, List.not_mem_nil, or_false] at hz
      rcases hz with rfl | rfl <;> exact fit_small _ (by decide) (by decide), fun x hx => by
      simp only [exE, List.mem_cons, List.not_mem_nil, or_false] at hx
      subst hx
      exact ⟨fit_small _ (by decide) (by decide), fit_small _ (by decide) (by decide)⟩⟩
theorem small_exE : SmallE exE :=
  ⟨by decide, by decide, fun x hx => by
    simp only [exE, List.mem_cons, List.not_mem_nil, or_false] at hx
    subst hx; decide⟩

theorem lebB : ∀ (z : Nat), ∀ c ∈ leb z, 0 ≤ c ∧ c < 256 := by
  intro z
  induction z using Nat.strongRecOn with
  | _ z ih =>
    intro c hc
    by_cases h : z < 128
    · rw [leb_small z h] at hc; simp at hc; omega
    · rw [leb_big z (by omega)] at hc
      rcases List.mem_cons.1 hc with rfl | hc
      · omega
      · exact ih (z / 128) (by omega) c hc
theorem intsBB (ds : List Int) : ∀ c ∈ intsB ds, 0 ≤ c ∧ c < 256 := fun c hc => by
  rw [intsB, List.mem_append] at hc
  rcases hc with hc | hc
  · exact lebB _ c hc
  · obtain ⟨l, hl, hcl⟩ := List.mem_flatten.1 hc
    obtain ⟨d, _, rfl⟩ := List.mem_map.1 hl
    exact lebB _ c hcl
theorem strsBB (ds : List ByteArray) : ∀ c ∈ strsB ds, 0 ≤ c ∧ c < 256 := fun c hc => by
  rw [strsB, List.mem_append] at hc
  rcases hc with hc | hc
  · exact lebB _ c hc
  · obtain ⟨l, hl, hcl⟩ := List.mem_flatten.1 hc
    obtain ⟨d, _, rfl⟩ := List.mem_map.1 hl
    rw [strB, List.mem_append] at hcl
    rcases hcl with h | h
    · exact lebB _ c h
    · exact bytesL_byte d c h
theorem encE_byte (x : PEntry) : ∀ c ∈ encE x, 0 ≤ c ∧ c < 256 := fun c hc => by
  rw [encE, List.mem_append] at hc
  rcases hc with h | h
  · exact intsBB _ c h
  · exact strsBB _ c h
theorem encE_len (x : PEntry) (hf : FitE x) (hs : SmallE x) : (encE x).length ≤ 1000000000 := by
  have h1 := intsB_len (encN x) (encN_fit x hf hs)
  have h2 := strsB_len (attrS x.attrs) (attrS_small x.attrs hs.strs) (by have := attrS_len x.attrs; have := hs.attrs; omega)
  have h3 := encN_len x
  have h4 := attrS_len x.attrs
  have h5 := hs.vec
  have h6 := hs.attrs
  have h7 := intB_len (encN x).length (by omega) (by omega)
  rw [encE, List.length_append]; omega
theorem pcDecEnc (x : PEntry) (hf : FitE x) (hs : SmallE x) : PCalls Tryd.prog 7 [pbytes (encE x)] (· = .tup [pentry x, pint 0]) := by
  have := pw_decode (encE x) (Byte.of (encE_byte x)) (encE_len x hf hs)
  rw [decE_enc x hf hs] at this
  exact this

set_option maxRecDepth 10000 in
set_option maxHeartbeats 4000000 in
theorem pw_sanity : PCalls Tryd.prog 6 [] (· = pbool true) := by
  refine pcalls_of_pw typeTab_ok Tryd.func6 rfl (by kernel_rfl) (by simp) (by simp) (by rw [Tryd.ntmps6]; simp) ?_
  rw [Tryd.ntmps6, Tryd.results6]
  have c0 := pw_example
  have fe := fit_exE
  have se := small_exE
  have c1 := pcCheck exS small_exS
  rw [v1] at c1
  have c2 := (pcCheck ⟨2, 0, []⟩ small_none).args (ps := [.agg [pint 2, pint 0, .nilsl]]) (.cons (.agg (.cons (.refl _) (.cons (.refl _) (.cons (.nil _) .nil)))) .nil)
  rw [v2] at c2
  have c3 := pcFits exS [exRed, exThree] small_exS (by decide)
  rw [v3] at c3
  have c4 := pcFits exS [exThree, exRed] small_exS (by decide)
  rw [v4] at c4
  have c5 := pcFits exS [⟨nSize, 1, 1, ByteArray.empty⟩] small_exS (by decide)
  rw [v5] at c5
  have c6 := pcFits exS [⟨nColour, 1, 3, ByteArray.empty⟩] small_exS (by decide)
  rw [v6] at c6
  have c7 := pcFits exS [⟨nWeight, 1, 10, ByteArray.empty⟩] small_exS (by decide)
  rw [v7] at c7
  have c8 := pcFits exS [⟨nColour, 2, 0, nGreen⟩] small_exS (by decide)
  rw [v8] at c8
  have c9 := pcGet exE.attrs nColour (by decide)
  rw [v9] at c9
  have c10 := pcEntry exS exE small_exS (by decide) (by decide)
  rw [v10] at c10
  have c11 := pcEntry exS exEarly small_exS (by decide) (by decide)
  rw [v11] at c11
  have c12 := pcEntry exS exShort small_exS (by decide) (by decide)
  rw [v12] at c12
  have c13 := pcName ⟨#[97, 95, 49]⟩ (by decide)
  rw [v13] at c13
  have c14 := pcName ⟨#[49, 97]⟩ (by decide)
  rw [v14] at c14
  have c15 := pcName ⟨#[105, 110]⟩ (by decide)
  rw [v15] at c15
  have c16 := pcEncode exE fe se
  have c17 := pcDecEnc exE fe se
  have c18 := pw_refSame exE exE fe se fe se
  rw [show ((strI (encE exE)).toList == (strI (encE exE)).toList) = true by simp] at c18
  have c19 := pw_attrSame exE exE (by decide) (by decide) (by decide) (by decide)
  rw [decide_eq_true rfl] at c19
  have c20 := pw_attrSame exE exEarly (by decide) (by decide) (by decide) (by decide)
  rw [decide_eq_false (show exE ≠ exEarly by intro h; cases h)] at c20
  refine wk ?_
  refine retP rfl (by exact lw) rfl
end Go.Proofs.YtnjopfjmepbpoaaDoor

/- Digests of schemas and entries. -/
namespace Go.Proofs.YtnjopfjmepbpoaaDoor
set_option linter.unusedSimpArgs false
set_option linter.unusedVariables false
set_option linter.unnecessarySimpa false
open Go.RowKit

def defP (d : PDef) : List ByteArray := [d.name, strI (intsB [d.kind, d.lo, d.hi, d.words.length])] ++ d.words
def digP (dims metric n : Int) (l : List PDef) : List ByteArray := strI (intsB [dims, metric, n]) :: l.flatMap defP
theorem digP_snoc (a b n : Int) (l : List PDef) (d : PDef) : digP a b n (l ++ [d]) = digP a b n l ++ defP d := by simp [digP]
structure FitD (d : PDef) : Prop where
  kind : Fit64 d.kind
  lo : Fit64 d.lo
  hi : Fit64 d.hi
theorem fit_len {n : Nat} (h : n ≤ 1000000000000) : Fit64 (n : Int) := ⟨by omega, by omega⟩
theorem fit3 {a b c : Int} (h1 : Fit64 a) (h2 : Fit64 b) (h3 : Fit64 c) : Fit [a, b, c] := by
  intro z hz; simp at hz; rcases hz with rfl | rfl | rfl <;> assumption
theorem fit4 {a b c d : Int} (h1 : Fit64 a) (h2 : Fit64 b) (h3 : Fit64 c) (h4 : Fit64 d) : Fit [a, b, c, d] := by
  intro z hz; simp at hz; rcases hz with rfl | rfl | rfl | rfl <;> assumption
theorem strI_size (l : List Int) : (strI l).size = l.length := strOf_size l
theorem small_ints {l : List Int} (h : Fit l) (hl : l.length ≤ 10) : (strI (intsB l)).size ≤ 1000 := by
  have h1 := flat_len l h
  have h2 := intB_len l.length (by omega) (by omega)
  rw [strI_size, intsB, List.length_append]; omega
theorem digP_small (a b n : Int) (l : List PDef) (h1 : Fit64 a) (h2 : Fit64 b) (h3 : Fit64 n) (hl : ∀ d ∈ l, FitD d ∧ SmallD d) : SmallStrs (digP a b n l) := by
  intro s hs
  rcases List.mem_cons.1 hs with rfl | hs
  · have := small_ints (fit3 h1 h2 h3) (by simp); omega
  · obtain ⟨d, hd, hs⟩ := List.mem_flatMap.1 hs
    obtain ⟨f, m⟩ := hl d hd
    rcases List.mem_append.1 hs with hs | hs
    · simp at hs
      rcases hs with rfl | rfl
      · have := m.1; omega
      · have := small_ints (fit4 f.kind f.lo f.hi (fit_len (n := d.words.length) (by have := m.2.1; omega))) (by simp); omega
    · have := m.2.2 s hs; omega
theorem digP_len (a b n : Int) (l : List PDef) (hl : ∀ d ∈ l, SmallD d) : (digP a b n l).length ≤ 1 + l.length * 1002 := by
  induction l with
  | nil => simp [digP]
  | cons d l ih =>
    have h1 := ih (fun x hx => hl x (List.mem_cons_of_mem _ hx))
    have h2 := (hl d (List.mem_cons_self ..)).2.1
    simp only [digP, List.length_cons, List.flatMap_cons, List.length_append, defP, List.length_nil] at *
    omega
theorem digP_sl (a b n : Int) (l : List PDef) (d : PDef) (X : Option TypeId) : PV.sl (digP a b n (l ++ [d])).length 1 ((digP a b n (l ++ [d])).map pstr) X = .sl ((digP a b n l).length + 2 + d.words.length) 1 ((digP a b n l).map pstr ++ [pstr d.name, pstr (strI (intsB [d.kind, d.lo, d.hi, (d.words.length : Int)]))] ++ d.words.map pstr) X := by
  refine sl_eq ?_ ?_
  · rw [digP_snoc]; simp [defP]; omega
  · rw [digP_snoc]; simp [defP]

set_option maxRecDepth 10000 in
set_option maxHeartbeats 2000000 in
theorem pw_digest (s : PSchema) (hs : SmallS s) (h1 : Fit64 s.dims) (h2 : Fit64 s.metric) (hd : ∀ d ∈ s.defs, FitD d) (hl : s.defs.length ≤ 90) : PCalls Tryd.prog 20 [pschema s] (· = pdig (digI 13 (digP s.dims s.metric s.defs.length s.defs))) := by
  refine pcalls_of_pw typeTab_ok Tryd.func20 rfl (by kernel_rfl) (by exact lw) (by simp [pschema, PV.ownB]) (Nat.le_of_ble_eq_true rfl) ?_
  have hn := fit_len (n := s.defs.length) (by omega)
  have w1 := pcInts [s.dims, s.metric, s.defs.length] (fit3 h1 h2 hn) (by simp)
  have hT : digI 13 (digP s.dims s.metric s.defs.length s.defs) = digI 13 (digP s.dims s.metric s.defs.length (s.defs.take s.defs.length)) := by rw [List.take_length]
  rw [hT]
  clear hT
  refine wk ?_
  refine PW.loop (fun k : Nat => (((((((bot.setb 0 [pint s.dims, pint s.metric, pdefs s.defs]).put 1 (.ptr 0 0)).setb 1 (List.replicate 16 (pbyte 0))).put 2 (.ptr 1 0)).put 3 (.sl (digP s.dims s.metric s.defs.length (s.defs.take k)).length 1 ((digP s.dims s.metric s.defs.length (s.defs.take k)).map pstr) (some 9))).put 18 (pdefs s.defs)).put 19 (pint s.defs.length)).put 20 (pint k)) (fun k => k ≤ s.defs.length) (fun k => s.defs.length - k) 0 (by omega) ?_ ?_
  · exact sb
  · intro k hk
    have hpl := digP_len s.dims s.metric s.defs.length (s.defs.take k) (fun d hx => hs.2 d (List.mem_of_mem_take hx))
    have hps := digP_small s.dims s.metric s.defs.length (s.defs.take k) h1 h2 hn (fun d hx => ⟨hd d (List.mem_of_mem_take hx), hs.2 d (List.mem_of_mem_take hx)⟩)
    have htl : (s.defs.take k).length = k := by rw [List.length_take]; omega
    rw [htl] at hpl
    by_cases hlt : k < s.defs.length
    · obtain ⟨d, hdk⟩ := ints_get s.defs k hlt
      have hdm := mem_of_get hdk
      have hdl := (hs.2 d hdm).2.1
      have w2 := pcInts [d.kind, d.lo, d.hi, d.words.length] (fit4 (hd d hdm).kind (hd d hdm).lo (hd d hdm).hi (fit_len (by omega))) (by simp)
      have hrow := flatMap_row (f := pdefL) (k := 5) (fun _ => rfl) hdk
      have hlen := flatMap_len (f := pdefL) (k := 5) (fun _ => rfl) s.defs
      have hrow' : (((s.defs.flatMap pdefL).drop (k * 5)).take 5).map PV.bare = pdefL d := by rw [hrow]; rfl
      have hnx : s.defs.take (k + 1) = s.defs.take k ++ [d] := by rw [List.take_add_one, hdk]; rfl
      refine wk ?_
      refine loopP (k + 1) (by omega) (by omega) ?_
      simp only [hnx]
      have ll : Low (.sl (digP s.dims s.metric s.defs.length (s.defs.take k ++ [d])).length 1 ((digP s.dims s.metric s.defs.length (s.defs.take k ++ [d])).map pstr) (some 9)) := low_mapS
      rw [digP_sl] at ll
      simp only [digP_sl]
      exact sb
    · have e : k = s.defs.length := by omega
      subst e
      have ho := pc_of 13 (digP s.dims s.metric s.defs.length (s.defs.take s.defs.length)) (by omega) hps
      have hdl := digI_len 13 (digP s.dims s.metric s.defs.length (s.defs.take s.defs.length))
      generalize digP s.dims s.metric s.defs.length (s.defs.take s.defs.length) = p at *
      generalize digI 13 p = D at *
      refine wk ?_
      exact ⟨_, presult1 (pres_cell rfl rfl rfl (len_map hdl) (bare_map (fun _ => rfl) _)), .agg _ (low_map (fun _ => Low.val _) _), rfl⟩

set_option maxRecDepth 10000 in
set_option maxHeartbeats 2000000 in
theorem pw_refDigest (s : PSchema) (hs : SmallS s) (h1 : Fit64 s.dims) (h2 : Fit64 s.metric) (hd : ∀ d ∈ s.defs, FitD d) (hl : s.defs.length ≤ 90) : PCalls Tryd.prog 21 [pschema s] (· = pdig (digI 13 (digP s.dims s.metric s.defs.length s.defs))) := by
  refine pcalls_of_pw typeTab_ok Tryd.func21 rfl (by kernel_rfl) (by exact lw) (by simp [pschema, PV.ownB]) (Nat.le_of_ble_eq_true rfl) ?_
  have hn := fit_len (n := s.defs.length) (by omega)
  have w1 := pcRefInts [s.dims, s.metric, s.defs.length] (fit3 h1 h2 hn) (by simp)
  have hT : digI 13 (digP s.dims s.metric s.defs.length s.defs) = digI 13 (digP s.dims s.metric s.defs.length (s.defs.take s.defs.length)) := by rw [List.take_length]
  rw [hT]
  clear hT
  refine wk ?_
  refine PW.loop (fun k : Nat => (((((bot.setb 0 [pint s.dims, pint s.metric, pdefs s.defs]).put 1 (.ptr 0 0)).setb 1 (List.replicate 16 (pbyte 0))).put 2 (.ptr 1 0)).put 3 (.sl (digP s.dims s.metric s.defs.length (s.defs.take k)).length 1 ((digP s.dims s.metric s.defs.length (s.defs.take k)).map pstr) (some 9))).put 4 (pint k)) (fun k => k ≤ s.defs.length) (fun k => s.defs.length - k) 0 (by omega) ?_ ?_
  · exact sb
  · intro k hk
    have hpl := digP_len s.dims s.metric s.defs.length (s.defs.take k) (fun d hx => hs.2 d (List.mem_of_mem_take hx))
    have hps := digP_small s.dims s.metric s.defs.length (s.defs.take k) h1 h2 hn (fun d hx => ⟨hd d (List.mem_of_mem_take hx), hs.2 d (List.mem_of_mem_take hx)⟩)
    have htl : (s.defs.take k).length = k := by rw [List.length_take]; omega
    rw [htl] at hpl
    by_cases hlt : k < s.defs.length
    · obtain ⟨d, hdk⟩ := ints_get s.defs k hlt
      have hdm := mem_of_get hdk
      have hdl := (hs.2 d hdm).2.1
      have w2 := pcRefInts [d.kind, d.lo, d.hi, d.words.length] (fit4 (hd d hdm).kind (hd d hdm).lo (hd d hdm).hi (fit_len (by omega))) (by simp)
      have hrow := flatMap_row (f := pdefL) (k := 5) (fun _ => rfl) hdk
      have hlen := flatMap_len (f := pdefL) (k := 5) (fun _ => rfl) s.defs
      have hrow' : (((s.defs.flatMap pdefL).drop (k * 5)).take 5).map PV.bare = pdefL d := by rw [hrow]; rfl
      have hnx : s.defs.take (k + 1) = s.defs.take k ++ [d] := by rw [List.take_add_one, hdk]; rfl
      refine wk ?_
      refine loopP (k + 1) (by omega) (by omega) ?_
      simp only [hnx]
      have ll : Low (.sl (digP s.dims s.metric s.defs.length (s.defs.take k ++ [d])).length 1 ((digP s.dims s.metric s.defs.length (s.defs.take k ++ [d])).map pstr) (some 9)) := low_mapS
      rw [digP_sl] at ll
      simp only [digP_sl]
      exact sb
    · have e : k = s.defs.length := by omega
      subst e
      have ho := pc_refOf 13 (digP s.dims s.metric s.defs.length (s.defs.take s.defs.length)) (by omega) hps
      have hdl := digI_len 13 (digP s.dims s.metric s.defs.length (s.defs.take s.defs.length))
      generalize digP s.dims s.metric s.defs.length (s.defs.take s.defs.length) = p at *
      generalize digI 13 p = D at *
      refine wk ?_
      exact ⟨_, presult1 (pres_cell rfl rfl rfl (len_map hdl) (bare_map (fun _ => rfl) _)), .agg _ (low_map (fun _ => Low.val _) _), rfl⟩

theorem encE_size (x : PEntry) (hf : FitE x) (hs : SmallE x) : (strI (encE x)).size ≤ 1000000000 := by rw [strI_size]; exact encE_len x hf hs
end Go.Proofs.YtnjopfjmepbpoaaDoor

/- Leaves; the specification decodes. -/
namespace Go.Proofs.YtnjopfjmepbpoaaDoor
set_option linter.unusedSimpArgs false
set_option linter.unusedVariables false
set_option linter.unnecessarySimpa false
open Go.RowKit

def leafI (x : PEntry) : List Int := digI 14 [strI (encE x)]
theorem small_leaf (x : PEntry) (hf : FitE x) (hs : SmallE x) (hq : (encE x).length ≤ 1000000) : SmallStrs [strI (encE x)] := by
  intro s h; simp at h; subst h; rw [strI_size]; exact hq

set_option maxRecDepth 10000 in
set_option maxHeartbeats 1000000 in
theorem pw_leaf (x : PEntry) (hf : FitE x) (hs : SmallE x) (hq : (encE x).length ≤ 1000000) : PCalls Tryd.prog 12 [pentry x] (· = pdig (leafI x)) := by
  refine pcalls_of_pw typeTab_ok Tryd.func12 rfl (by kernel_rfl) (by exact lw) (by simp [pentry, PV.ownB]) (Nat.le_of_ble_eq_true rfl) ?_
  have he := pcEncode x hf hs
  have ho := pc_of 14 [strI (encE x)] (by simp) (small_leaf x hf hs hq)
  have hdl := digI_len 14 [strI (encE x)]
  have hl := low_entCells x
  rw [show leafI x = digI 14 [strI (encE x)] from rfl]
  generalize encE x = b at *
  generalize digI 14 [strI b] = D at *
  refine wk ?_
  exact ⟨_, presult1 (pres_cell rfl rfl rfl (len_map hdl) (bare_map (fun _ => rfl) _)), .agg _ (low_map (fun _ => Low.val _) _), rfl⟩

set_option maxRecDepth 10000 in
set_option maxHeartbeats 1000000 in
theorem pw_refLeaf (x : PEntry) (hf : FitE x) (hs : SmallE x) (hq : (encE x).length ≤ 1000000) : PCalls Tryd.prog 13 [pentry x] (· = pdig (leafI x)) := by
  refine pcalls_of_pw typeTab_ok Tryd.func13 rfl (by kernel_rfl) (by exact lw) (by simp [pentry, PV.ownB]) (Nat.le_of_ble_eq_true rfl) ?_
  have he := pw_refEncode x hf hs
  have ho := pc_refOf 14 [strI (encE x)] (by simp) (small_leaf x hf hs hq)
  have hdl := digI_len 14 [strI (encE x)]
  have hl := low_entCells x
  rw [show leafI x = digI 14 [strI (encE x)] from rfl]
  generalize encE x = b at *
  generalize digI 14 [strI b] = D at *
  refine wk ?_
  exact ⟨_, presult1 (pres_cell rfl rfl rfl (len_map hdl) (bare_map (fun _ => rfl) _)), .agg _ (low_map (fun _ => Low.val _) _), rfl⟩

theorem pcRefGetInt (bs : List Int) (hby : Byte bs) : PCalls Tryd.prog 71 [pbytes bs] (· = .tup [pint (getI bs).1, pint (getI bs).2.1, pint (getI bs).2.2]) :=
  pcalls1 (by kernel_rfl) fun Φ μ w v himm hr => (refGetInt v bs w (bytes_of_rep himm hr) hby).mono (by
    rintro e w' ⟨rfl, k, rfl⟩
    exact post_flat himm (RepL.cons (.val _ rfl) (RepL.cons (.val _ rfl) (RepL.cons (.val _ rfl) RepL.nil))).tup rfl rfl ((Still.one _ _).below _))
theorem pcRefLength (bs : List Int) (hby : Byte bs) : PCalls Tryd.prog 70 [pbytes bs, pint 1] (· = .tup [pint (lenL bs 1).1, pint (lenL bs 1).2.1, pint (lenL bs 1).2.2]) :=
  pcalls2 (by kernel_rfl) fun Φ μ w v u himm hr hr2 => by
    obtain ⟨rfl, -⟩ := hr2.val_inv
    exact (refLength v bs 1 w (bytes_of_rep himm hr) hby (by omega) (by omega)).mono (by
    rintro e w' ⟨rfl, k, rfl⟩
    exact post_flat himm (RepL.cons (.val _ rfl) (RepL.cons (.val _ rfl) (RepL.cons (.val _ rfl) RepL.nil))).tup rfl rfl ((Still.one _ _).below _))
theorem pcRefGetInts (bs : List Int) (hby : Byte bs) (hl : bs.length ≤ 1000000000) : PCalls Tryd.prog 29 [pbytes bs] (· = .tup [pints (getInts bs).1, pint (getInts bs).2.1, pint (getInts bs).2.2]) :=
  pcalls1 (by kernel_rfl) fun Φ μ w v himm hr => (refGetInts v bs w (bytes_of_rep himm hr) hby hl).mono (by
    rintro e w' ⟨u, rfl, ho, hb⟩
    exact post_tup3 himm (plain_int _) ho hb)

set_option maxRecDepth 10000 in
set_option maxHeartbeats 1000000 in
theorem pw_refGetBytes (bs : List Int) (hby : Byte bs) (hl : bs.length ≤ 1000000000) : PCalls Tryd.prog 72 [pbytes bs] (· = .tup [pstr (getS bs).1, pint (getS bs).2.1, pint (getS bs).2.2]) := by
  refine pcalls_of_pw typeTab_ok Tryd.func72 rfl (by kernel_rfl) (by exact lw) (by simp [pbytes, PV.ownB]) (Nat.le_of_ble_eq_true rfl) ?_
  have cg := pcRefGetInt bs hby
  have ok := getI_ok bs hby.all
  obtain ⟨n, u, er, h1⟩ : ∃ n u er, getI bs = (n, u, er) := ⟨_, _, _, rfl⟩
  have hG : getS bs = if er ≠ 0 then (ByteArray.empty, 0, er) else if n < 0 then (ByteArray.empty, 0, 11) else if (bs.length : Int) - u < n then (ByteArray.empty, 0, 10) else (strOf ((bs.drop u.toNat).take n.toNat), u + n, 0) := by
    rw [getS, lenL, h1]
    by_cases e1 : er = 0
    · by_cases e2 : n < 0
      · simp [e1, e2]
      · by_cases e3 : (bs.length : Int) - u < n
        · simp [e1, e2, e3]
        · simp [e1, e2, e3]
    · simp [e1]
  rw [h1] at cg ok
  clear h1
  simp only at cg ok
  refine wk ?_
  by_cases g1 : er = 0
  case neg =>
    refine wk ?_
    refine retP rfl (by exact lw) ?_
    rw [hG, if_pos g1]; rfl
  subst g1
  obtain ⟨o1, o2, o3, o4⟩ := ok rfl
  refine wk ?_
  by_cases g2 : n < 0
  · refine wk ?_
    refine retP rfl (by exact lw) ?_
    rw [hG, if_neg (by simp), if_pos g2]; rfl
  refine wk ?_
  by_cases g3 : (bs.length : Int) - u < n
  · refine wk ?_
    refine retP rfl (by exact lw) ?_
    rw [hG, if_neg (by simp), if_neg g2, if_pos g3]; rfl
  obtain ⟨N, rfl⟩ : ∃ N : Nat, n = N := ⟨n.toNat, by omega⟩
  obtain ⟨U, rfl⟩ : ∃ N : Nat, u = N := ⟨u.toNat, by omega⟩
  have hG2 : getS bs = (strOf ((bs.drop U).take N), (U : Int) + (N : Int), 0) := by
    rw [hG, if_neg (by simp), if_neg g2, if_neg g3]; simp
  clear hG
  rw [hG2]
  refine wk ?_
  refine retP rfl (by exact lw) ?_
  rw [show ((U : Int) + (N : Int)).toNat - ((U : Int)).toNat = N by omega]; rfl

theorem weak_nil3 (k : Nat) (a b : Int) : Weak (.tup [.nilsl, pint a, pint b]) (.tup [.sl 0 k [] none, pint a, pint b]) :=
  .tup (.cons (.nil k) (.cons (.refl _) (.cons (.refl _) .nil)))

set_option maxRecDepth 10000 in
set_option maxHeartbeats 1000000 in
theorem pw_refGetStrs (bs : List Int) (hby : Byte bs) (hl : bs.length ≤ 1000000000) : PCalls Tryd.prog 30 [pbytes bs] (· = .tup [pstrs (getStrs bs).1, pint (getStrs bs).2.1, pint (getStrs bs).2.2]) := by
  refine PCalls.weak ?_
  refine pcalls_of_pw typeTab_ok Tryd.func30 rfl (by kernel_rfl) (by exact lw) (by simp [pbytes, PV.ownB]) (Nat.le_of_ble_eq_true rfl) ?_
  have cg := pcRefLength bs hby
  have ok := lenL_ok bs 1 hby.all
  obtain ⟨n, u, er, h1⟩ : ∃ n u er, lenL bs 1 = (n, u, er) := ⟨_, _, _, rfl⟩
  have hD : getStrs bs = if er ≠ 0 then ([], 0, er) else andThenS [] u (getNS n.toNat (bs.drop u.toNat)) := by rw [getStrs, h1]
  rw [h1] at cg ok
  clear h1
  simp only [Int.ediv_one] at cg ok
  refine wk ?_
  by_cases g1 : er = 0
  case neg =>
    refine wk ?_
    refine retP (r := .tup [.nilsl, pint 0, pint er]) rfl (by exact lw) ?_
    rw [hD, if_pos g1]; exact weak_nil3 1 0 er
  subst g1
  obtain ⟨o1, o2, o3, o4⟩ := ok rfl
  rw [if_neg (by simp)] at hD
  obtain ⟨N, rfl⟩ : ∃ N : Nat, n = N := ⟨n.toNat, by omega⟩
  obtain ⟨U, rfl⟩ : ∃ N : Nat, u = N := ⟨u.toNat, by omega⟩
  simp only [Int.toNat_natCast] at hD
  refine wk ?_
  refine PW.loop (fun x : List ByteArray × Nat => ((((bot.put 0 (pbytes bs)).put 5 (pint N)).put 6 (pint x.2)).put 8 (.sl x.1.length 1 (x.1.map pstr) (some 9))).put 9 (pint x.1.length)) (fun x => x.1.length ≤ N ∧ x.2 ≤ bs.length ∧ getStrs bs = andThenS x.1 x.2 (getNS (N - x.1.length) (bs.drop x.2))) (fun x => N - x.1.length) ([], U) ⟨by simp, by omega, hD⟩ ?_ ?_
  · exact sb
  · rintro ⟨out, A⟩ ⟨i1, i2, i3⟩
    simp only at i1 i2 i3
    simp only
    by_cases hlt : out.length < N
    · have cb := pw_refGetBytes (bs.drop A) (hby.drop A) (by rw [List.length_drop]; omega)
      have okb := getS_ok (bs.drop A) (hby.drop A).all
      obtain ⟨x, v, e2, h2⟩ : ∃ x v e2, getS (bs.drop A) = (x, v, e2) := ⟨_, _, _, rfl⟩
      rw [h2] at cb okb
      simp only at cb okb
      rw [show N - out.length = (N - out.length - 1) + 1 by omega] at i3
      refine wk ?_
      by_cases g2 : e2 = 0
      case neg =>
        refine wk ?_
        refine retP (r := .tup [.nilsl, pint 0, pint e2]) rfl (by exact lw) ?_
        rw [i3, andThenS_err _ _ _ _ _ h2 g2]; exact weak_nil3 1 0 e2
      subst g2
      obtain ⟨p1, p2⟩ := okb rfl
      rw [List.length_drop] at p2
      obtain ⟨V, rfl⟩ : ∃ N : Nat, v = N := ⟨v.toNat, by omega⟩
      have i4 := i3
      rw [andThenS_step _ _ _ _ _ h2 rfl] at i4
      simp only [Int.toNat_natCast, List.drop_drop] at i4
      clear i3 hD h2 cb
      refine wk ?_
      refine loopP (out ++ [x], A + V) ⟨by simp; omega, by omega, ?_⟩ (by simp; omega) ?_
      · rw [i4]; simp only [List.length_append, List.length_cons, List.length_nil]
        rw [show N - (out.length + (0 + 1)) = N - out.length - 1 by omega]; rfl
      · have hl2 : (out ++ [x]).length = out.length + 1 := by simp
        have hm2 : (out ++ [x]).map pstr = out.map pstr ++ [pstr x] := by simp
        have ll : Low (.sl (out.length + 1) 1 (out.map pstr ++ [pstr x]) (some 9)) := by rw [← hm2]; exact low_mapS
        simp only [hl2, hm2]
        exact sb
    · refine wk ?_
      refine retP (r := .tup [.sl out.length 1 (out.map pstr) none, pint A, pint 0]) rfl (by simp [low_tup, low_pint]; exact low_mapS) ?_
      have i4 := i3
      rw [show N - out.length = 0 by omega, andThenS_done] at i4
      rw [i4]; exact .refl _

def entO (n : List Int) (s : List ByteArray) : PEntry × Int := match entOf n s with
  | some e => (e, 0)
  | none => (zeroE, 11)
def pread (r : PEntry × Int) : PV := .agg [pint r.1.id, pint r.1.ver, pint r.1.owner, pint r.1.filed, pint r.1.frm, pint r.1.to, pint r.1.born, pints r.1.vec, pattrs r.1.attrs, pint r.2]
def nilR (c : Int) : PV := .agg [pint 0, pint 0, pint 0, pint 0, pint 0, pint 0, pint 0, .nilsl, .nilsl, pint c]
theorem weak_nilR (c : Int) : Weak (nilR c) (pread (zeroE, c)) :=
  .agg (.cons (.refl _) (.cons (.refl _) (.cons (.refl _) (.cons (.refl _) (.cons (.refl _) (.cons (.refl _) (.cons (.refl _) (.cons (.nil 1) (.cons (.nil 4) (.cons (.refl _) .nil))))))))))
theorem low_nilR (c : Int) : Low (nilR c) := by simp [nilR, low_agg, low_pint, low_nilsl]
theorem low_pread (r : PEntry × Int) : Low (pread r) := by simp [pread, low_agg, low_pint, low_pints, low_pattrs]
def zeroRC : List PV := [pint 0, pint 0, pint 0, pint 0, pint 0, pint 0, pint 0, .nilsl, .nilsl, pint 0]
theorem low_zeroRC : ∀ c ∈ zeroRC, Low c := by simp [zeroRC, low_pint, low_nilsl]

set_option maxRecDepth 10000 in
set_option maxHeartbeats 2000000 in
theorem pw_build (n : List Int) (s : List ByteArray) (hn : n.length ≤ 1000000000) (hs : s.length ≤ 1000000000) : PCalls Tryd.prog 31 [pints n, pstrs s] (· = pread (entO n s)) := by
  refine PCalls.weak ?_
  refine pcalls_of_pw typeTab_ok Tryd.func31 rfl (by kernel_rfl) (by exact lw) (by simp [pints, pstrs, PV.ownB]) (Nat.le_of_ble_eq_true rfl) ?_
  refine wk ?_
  by_cases g4 : n.length < 9
  · have hN : entOf n s = none := entOf_short n s g4
    refine wk ?_
    refine retP (r := nilR 11) rfl (low_nilR _) ?_
    rw [entO, hN]; exact weak_nilR _
  obtain ⟨i, v, o, f, a, t, b, c, r, rfl⟩ := entOf_eight n (by omega)
  have hlr : (i :: v :: o :: f :: a :: t :: b :: c :: r).length = r.length + 8 := rfl
  refine wk ?_
  by_cases g5 : c < 0
  · have hN : entOf (i :: v :: o :: f :: a :: t :: b :: c :: r) s = none := by rw [entOf, if_pos (.inl g5)]
    refine wk ?_
    refine retP (r := nilR 11) rfl (low_nilR _) ?_
    rw [entO, hN]; exact weak_nilR _
  obtain ⟨C, rfl⟩ : ∃ N : Nat, c = N := ⟨c.toNat, by omega⟩
  refine wk ?_
  by_cases g6 : (r.length : Int) - 1 < C
  · have hN : entOf (i :: v :: o :: f :: a :: t :: b :: (C : Int) :: r) s = none := by rw [entOf, if_pos (.inr g6)]
    refine wk ?_
    refine retP (r := nilR 11) rfl (low_nilR _) ?_
    rw [entO, hN]; exact weak_nilR _
  obtain ⟨m, q, hmq⟩ : ∃ m q, r.drop C = m :: q := by
    cases hh : r.drop C with
    | nil => have := congrArg List.length hh; rw [List.length_drop, List.length_nil] at this; omega
    | cons m q => exact ⟨m, q, rfl⟩
  have hlq : r.length = C + 1 + q.length := by have := congrArg List.length hmq; rw [List.length_drop, List.length_cons] at this; omega
  have e1 : ((i :: v :: o :: f :: a :: t :: b :: (C : Int) :: r).drop (8 : Int).toNat).take ((8 + (C : Int)).toNat - (8 : Int).toNat) = r.take C := by
    rw [show (8 + (C : Int)).toNat - (8 : Int).toNat = C by omega]; rfl
  have e2 : (i :: v :: o :: f :: a :: t :: b :: (C : Int) :: r).drop (8 + (C : Int)).toNat = m :: q := by
    rw [← hmq, show (8 + (C : Int)).toNat = C + 8 by omega]; rfl
  have hz := low_zeroRC
  have hCl : (r.take C).length = C := by rw [List.length_take]; omega
  have hE0 : entOf (i :: v :: o :: f :: a :: t :: b :: (C : Int) :: r) s = if s.length % 2 ≠ 0 ∨ m ≠ (s.length : Int) / 2 ∨ q.length ≠ s.length then none else some ⟨i, v, o, f, a, t, b, r.take C, attrsOf q s⟩ := by
    rw [entOf, if_neg (by omega)]
    simp only [Int.toNat_natCast, hmq]
  have hbad : (s.length % 2 ≠ 0 ∨ m ≠ (s.length : Int) / 2 ∨ q.length ≠ s.length) → Weak (nilR 11) (pread (entO (i :: v :: o :: f :: a :: t :: b :: (C : Int) :: r) s)) := by
    intro h; rw [entO, hE0, if_pos h]; exact weak_nilR _
  refine wg ?_
  refine PW.sub (σ' := (((((bot.setb 0 zeroRC).put 4 (.ptr 0 0)).put 0 (pints (i :: v :: o :: f :: a :: t :: b :: (C : Int) :: r))).put 1 (pstrs s)))) ?_ (by exact sb)
  refine wk ?_
  rw [e1]
  refine wk ?_
  rw [e2]
  refine wk ?_
  have hmq2 : (m :: q).length = q.length + 1 := rfl
  by_cases g7 : m < 0
  · refine wk ?_
    exact retP (r := nilR 11) rfl (low_nilR _) (hbad (by omega))
  refine wk ?_
  by_cases g8 : (q.length : Int) + 1 < m
  · refine wk ?_
    exact retP (r := nilR 11) rfl (low_nilR _) (hbad (by omega))
  refine wk ?_
  by_cases g9 : (q.length : Int) = 2 * m
  case neg =>
    refine wk ?_
    exact retP (r := nilR 11) rfl (low_nilR _) (hbad (by omega))
  refine wk ?_
  by_cases g10 : (s.length : Int) = 2 * m
  case neg =>
    refine wk ?_
    exact retP (r := nilR 11) rfl (low_nilR _) (hbad (by omega))
  refine wk ?_
  obtain ⟨L, hL⟩ : ∃ L, attrsOf q s = L := ⟨_, rfl⟩
  obtain ⟨b1, b2, b3⟩ := attrsOf_back (s.length / 2) q s (by omega) (by omega)
  rw [hL] at b1 b2 b3
  have hfin : entO (i :: v :: o :: f :: a :: t :: b :: (C : Int) :: r) s = (⟨i, v, o, f, a, t, b, r.take C, L⟩, 0) := by
    rw [entO, hE0, if_neg (by omega), hL]
  have hget : ∀ k, k < s.length / 2 → L[k]? = some ⟨s.getD (2 * (k : Int)).toNat default, (m :: q).getD (1 + 2 * (k : Int)).toNat default, (m :: q).getD (2 + 2 * (k : Int)).toNat default, s.getD (2 * (k : Int) + 1).toNat default⟩ := by
    intro k hk
    rw [← hL]
    refine attrsOf_get k q s _ _ _ _ ?_ ?_ ?_ ?_
    · rw [show (1 + 2 * (k : Int)).toNat = 2 * k + 1 by omega, List.getD_cons_succ]; exact getD_get _ (by omega)
    · rw [show (2 + 2 * (k : Int)).toNat = (2 * k + 1) + 1 by omega, List.getD_cons_succ]; exact getD_get _ (by omega)
    · rw [show (2 * (k : Int)).toNat = 2 * k by omega]; exact getD_get _ (by omega)
    · rw [show (2 * (k : Int) + 1).toNat = 2 * k + 1 by omega]; exact getD_get _ (by omega)
  have hlow : ∀ k, ∀ c ∈ entC i v o f a t b (r.take C) (fldA L k), Low c := fun k => low_entC k
  rw [hfin]
  clear hbad hE0 e1 e2 hfin hmq hL
  simp only [Nat.zero_add, List.nil_append]
  refine PW.loop (fun k : Nat => ((((((bot.setb 0 zeroRC).setb 3030 (entC i v o f a t b (r.take C) (fldA L k))).put 4 (.ptr 0 0)).put 1 (pstrs s)).put 5 (.ptr 3030 0)).put 6 (pints (m :: q))).put 7 (pint k)) (fun k => k ≤ s.length / 2) (fun k => s.length / 2 - k) 0 (by omega) ?_ ?_
  · exact sb
  · intro k hk
    by_cases hlt : k < s.length / 2
    · have hx := hget k hlt
      cases k with
      | zero =>
        refine wk ?_
        refine loopP 1 (by omega) (by omega) ?_
        show Sub _ _ (((((((bot.setb 0 zeroRC).setb 3030 (entC i v o f a t b (r.take C) (fldA L 1))).put 4 (.ptr 0 0)).put 1 (pstrs s)).put 5 (.ptr 3030 0)).put 6 (pints (m :: q))).put 7 (pint ((1 : Nat) : Int)))
        have hl2 := hlow 1
        rw [fldA_succ hx] at hl2 ⊢
        exact sb
      | succ k =>
        refine wk ?_
        refine loopP (k + 1 + 1) (by omega) (by omega) ?_
        have hl2 := hlow (k + 1 + 1)
        simp only [fldA_succ hx] at hl2 ⊢
        exact sb
    · have e : L.take k = L := List.take_of_length_le (by omega)
      cases k with
      | zero =>
        refine wk ?_
        refine retP (r := .agg [pint i, pint v, pint o, pint f, pint a, pint t, pint b, pints (r.take C), .nilsl, pint 0]) rfl (by simp [low_agg, low_pint, low_pints, low_nilsl]) ?_
        have : L = [] := List.eq_nil_of_length_eq_zero (by omega)
        rw [this]
        exact .agg (.cons (.refl _) (.cons (.refl _) (.cons (.refl _) (.cons (.refl _) (.cons (.refl _) (.cons (.refl _) (.cons (.refl _) (.cons (.refl _) (.cons (.nil 4) (.cons (.refl _) .nil))))))))))
      | succ k =>
        refine wk ?_
        refine retP (r := .agg [pint i, pint v, pint o, pint f, pint a, pint t, pint b, pints (r.take C), .sl (k + 1) 4 ((L.take (k + 1)).flatMap pattrL) none, pint 0]) rfl (by simp [low_agg, low_pint, low_pints]; exact (fldA_low L (k + 1))) ?_
        have : k + 1 = L.length := by omega
        rw [e, this]
        exact .refl _

def decR (bs : List Int) : PEntry × Int := decE bs
set_option maxRecDepth 10000 in
set_option maxHeartbeats 2000000 in
theorem pw_refDecode (bs : List Int) (hby : Byte bs) (hl : bs.length ≤ 1000000000) : PCalls Tryd.prog 8 [pbytes bs] (· = pread (decE bs)) := by
  refine PCalls.weak ?_
  refine pcalls_of_pw typeTab_ok Tryd.func8 rfl (by kernel_rfl) (by exact lw) (by simp [pbytes, PV.ownB]) (Nat.le_of_ble_eq_true rfl) ?_
  have cg := pcRefGetInts bs hby (by omega)
  obtain ⟨n, u, er, h1⟩ : ∃ n u er, getInts bs = (n, u, er) := ⟨_, _, _, rfl⟩
  rw [h1] at cg
  simp only at cg
  refine wk ?_
  by_cases g1 : er = 0
  case neg =>
    refine wk ?_
    refine retP (r := nilR er) rfl (low_nilR _) ?_
    have hD : decE bs = (zeroE, er) := by rw [decE, h1, if_pos g1]
    rw [hD]; exact weak_nilR _
  subst g1
  obtain ⟨t1, t2, t3⟩ := getInts_take bs n u hby.all h1
  have t4 := getInts_pos bs n u hby.all h1
  obtain ⟨U, rfl⟩ : ∃ N : Nat, u = N := ⟨u.toNat, by omega⟩
  obtain ⟨s, u2, er2, h2⟩ : ∃ s u2 er2, getStrs (bs.drop U) = (s, u2, er2) := ⟨_, _, _, rfl⟩
  have cs := pw_refGetStrs (bs.drop U) (hby.drop U) (by rw [List.length_drop]; omega)
  rw [h2] at cs
  simp only at cs
  have hD : decE bs = if er2 ≠ 0 then (zeroE, er2) else if (U : Int) + u2 ≠ bs.length then (zeroE, 11) else entO n s := by
    rw [decE, h1]; simp only [ne_eq, not_true_eq_false, if_false, Int.toNat_natCast]; first | (rw [h2]; done) | (rw [h2]; rfl)
  refine wk ?_
  by_cases g2 : er2 = 0
  case neg =>
    refine wk ?_
    refine retP (r := nilR er2) rfl (low_nilR _) ?_
    rw [hD, if_pos g2]; exact weak_nilR _
  subst g2
  obtain ⟨t5, t6, t7⟩ := getStrs_take (bs.drop U) s u2 (hby.drop U).all h2
  have t8 := getInts_short bs n U hby.all h1
  have t9 := (getStrs_len (bs.drop U) s u2 (hby.drop U).all h2).1
  rw [List.length_drop] at t7 t9
  refine wk ?_
  by_cases g3 : (U : Int) + u2 = bs.length
  case neg =>
    refine wk ?_
    refine retP (r := nilR 11) rfl (low_nilR _) ?_
    rw [hD, if_neg (by simp), if_pos g3]; exact weak_nilR _
  have cb := pw_build n s (by omega) (by omega)
  rw [hD, if_neg (by simp), if_neg (by simp [g3])]
  clear hD h1 h2 t1 t5
  obtain ⟨x, hx⟩ : ∃ x, x = entO n s := ⟨_, rfl⟩
  rw [← hx] at cb ⊢
  clear hx
  refine wk ?_
  refine retP (r := pread x) rfl (low_pread _) (.refl _)
end Go.Proofs.YtnjopfjmepbpoaaDoor

/- Law AttrReadsBack: what is decoded is small; the walk. -/
namespace Go.Proofs.YtnjopfjmepbpoaaDoor
set_option linter.unusedSimpArgs false
set_option linter.unusedVariables false
set_option linter.unnecessarySimpa false
open Go.RowKit

theorem getN_fit : ∀ (n : Nat) (bs : List Int), Byte bs → ∀ z ∈ (getN n bs).1, Fit64 z
  | 0, bs, _, z, h => by simp [getN] at h
  | n + 1, bs, hby, z, h => by
    rw [getN] at h
    split at h
    · simp at h
    · rename_i h1
      split at h
      · simp at h
      · rcases List.mem_cons.1 h with rfl | h
        · obtain ⟨-, -, h3, h4⟩ := getI_ok bs hby.all (by simpa using h1)
          exact ⟨h3, h4⟩
        · exact getN_fit n _ (hby.drop _) z h
theorem getInts_fit (bs : List Int) (hby : Byte bs) : ∀ z ∈ (getInts bs).1, Fit64 z := by
  intro z h
  rw [getInts] at h
  split at h
  · simp at h
  · rw [andThen] at h
    split at h
    · simp at h
    · exact getN_fit _ _ (hby.drop _) z (by simpa using h)

theorem ints_ge (ds : List Int) : ds.length ≤ (intsB ds).length := by
  rw [intsB, List.length_append]
  have : ∀ l : List Int, l.length ≤ ((l.map intB).flatten).length := by
    intro l
    induction l with
    | nil => simp
    | cons x l ih =>
      have : 1 ≤ (intB x).length := leb_pos _
      simp only [List.map_cons, List.flatten_cons, List.length_append, List.length_cons]; omega
  have := this ds
  omega
theorem dec_good (bs : List Int) (hby : Byte bs) (hl : bs.length ≤ 2000) (x : PEntry) (h : decE bs = (x, 0)) : FitE x ∧ SmallE x := by
  have h0 := enc_decE bs x hby.all h
  obtain ⟨n, u, e, h1⟩ : ∃ n u e, getInts bs = (n, u, e) := ⟨_, _, _, rfl⟩
  have hfit := getInts_fit bs hby
  rw [decE, h1] at h
  rw [h1] at hfit
  simp only at h hfit
  split at h
  · rename_i he; simp only [Prod.mk.injEq] at h; exact absurd h.2 he
  · obtain ⟨s, u2, e2, h2⟩ : ∃ s u2 e2, getStrs (bs.drop u.toNat) = (s, u2, e2) := ⟨_, _, _, rfl⟩
    rename_i he0
    obtain rfl : e = 0 := by simpa using he0
    rw [h2] at h
    simp only at h
    split at h
    · rename_i he; simp only [Prod.mk.injEq] at h; exact absurd h.2 he
    · rename_i he1
      obtain rfl : e2 = 0 := by simpa using he1
      split at h
      · simp at h
      · rename_i hlen
        split at h
        · rename_i y hy
          simp only [Prod.mk.injEq, and_true] at h
          subst h
          obtain ⟨k1, k2⟩ := entOf_back n s y hy
          have hsz := getStrs_len (bs.drop u.toNat) s u2 (hby.drop _).all h2
          have hn1 := getInts_short bs n u hby.all h1
          have l1 := encN_len y
          have l2 := attrS_len y.attrs
          obtain ⟨t1, t2, t3⟩ := getInts_take bs n u hby.all h1
          have t4 : (bs.take u.toNat).length = (intsB n).length := by rw [t1]
          have t5 := ints_ge n
          rw [List.length_take] at t4
          rw [List.length_drop] at hsz
          have hle : n.length + s.length ≤ 2000 := by have := hsz.1; omega
          rw [k1] at l1
          rw [k2] at l2
          refine ⟨?_, ⟨by omega, by omega, fun a ha => ?_⟩⟩
          · have hm : ∀ z ∈ encN y, Fit64 z := by rw [k1]; exact hfit
            simp only [encN, headN, List.mem_append, List.mem_cons, List.not_mem_nil, or_false] at hm
            refine ⟨hm _ (by simp), hm _ (by simp), hm _ (by simp), hm _ (by simp), hm _ (by simp), hm _ (by simp), hm _ (by simp), fun z hz => hm z (by simp [hz]), fun a ha => ?_⟩
            have : a.kind ∈ attrN y.attrs ∧ a.n ∈ attrN y.attrs := by
              simp only [attrN, List.mem_flatten, List.mem_map]
              exact ⟨⟨_, ⟨a, ha, rfl⟩, by simp⟩, ⟨_, ⟨a, ha, rfl⟩, by simp⟩⟩
            exact ⟨hm _ (by simp [this.1]), hm _ (by simp [this.2])⟩
          · have : a.name ∈ attrS y.attrs ∧ a.s ∈ attrS y.attrs := by
              simp only [attrS, List.mem_flatten, List.mem_map]
              exact ⟨⟨_, ⟨a, ha, rfl⟩, by simp⟩, ⟨_, ⟨a, ha, rfl⟩, by simp⟩⟩
            rw [k2] at this
            have q1 := hsz.2 _ this.1
            have q2 := hsz.2 _ this.2
            omega
        · simp at h

theorem enc_inj (x y : PEntry) (h1 : FitE x) (h2 : SmallE x) (h3 : FitE y) (h4 : SmallE y) (h : encE x = encE y) : x = y := by
  have a := decE_enc x h1 h2
  have b := decE_enc y h3 h4
  rw [h, b] at a
  exact ((Prod.mk.inj a).1).symm
theorem strI_inj {a b : List Int} (ha : ∀ c ∈ a, 0 ≤ c ∧ c < 256) (hb : ∀ c ∈ b, 0 ≤ c ∧ c < 256) (h : strI a = strI b) : a = b := strOf_inj ha hb h
theorem eqB_iff {a b : ByteArray} : (a.toList == b.toList) = true ↔ a = b := by
  rw [ByteArray.toList_eq, ByteArray.toList_eq, beq_iff_eq]
  exact ⟨fun h => ba_ext h, fun h => h ▸ rfl⟩
theorem few_small {e : PEntry} (h : FewE e) : SmallE e := ⟨by have := h.1; omega, by have := h.2.1; omega, fun a ha => by have := h.2.2 a ha; unfold FewA at this; omega⟩
theorem toList_ne {a b : ByteArray} (h : a ≠ b) : (a.toList == b.toList) = false := by
  cases hh : (a.toList == b.toList) with
  | false => rfl
  | true => exact absurd (eqB_iff.1 hh) h

end Go.Proofs.YtnjopfjmepbpoaaDoor

/- The laws AttrCodesAsSpecified and AttrChecksAsSpecified: the walks. -/
namespace Go.Proofs.YtnjopfjmepbpoaaDoor
set_option linter.unusedSimpArgs false
set_option linter.unusedVariables false
set_option linter.unnecessarySimpa false
open Go.RowKit

theorem peqs_dig (D : List Int) (h : D.length = 16) : peqs (List.replicate 16 .int) (D.map pbyte) (D.map pbyte) = some true := by
  have e := peqs_ints (k := .u8) D D rfl
  rw [h] at e
  rw [show (D == D) = true by simp] at e
  exact e
theorem dec_zero (bs : List Int) : (decE bs).2 ≠ 0 → (decE bs).1 = zeroE := by
  unfold decE
  split
  · exact fun _ => rfl
  · split
    · exact fun _ => rfl
    · split
      · exact fun _ => rfl
      · split
        · exact fun h => absurd rfl h
        · exact fun _ => rfl
theorem encE_few (x : PEntry) (hf : FitE x) (hs : FewE x) : (encE x).length ≤ 1000000 := by
  have h1 := intsB_len (encN x) (encN_fit x hf (few_small hs))
  have h2 : (strsB (attrS x.attrs)).length ≤ 10 + 310 * (attrS x.attrs).length := by
    rw [strsB, List.length_append]
    have h3 := (intB_len (attrS x.attrs).length (by have := attrS_len x.attrs; have := hs.2.1; omega) (by have := attrS_len x.attrs; have := hs.2.1; omega)).2
    have h4 : ∀ l : List ByteArray, (∀ s ∈ l, s.size ≤ 300) → ((l.map strB).flatten).length ≤ 310 * l.length := by
      intro l
      induction l with
      | nil => simp
      | cons s l ih =>
        intro h
        have a1 := ih (fun x hx => h x (List.mem_cons_of_mem _ hx))
        have a2 := h s (List.mem_cons_self ..)
        have a3 := (intB_len s.size (by omega) (by omega)).2
        simp only [List.map_cons, List.flatten_cons, List.length_append, List.length_cons, strB, bytesL_len]
        omega
    have h5 := h4 (attrS x.attrs) (fun s hs' => by
      simp only [attrS, List.mem_flatten, List.mem_map] at hs'
      obtain ⟨l, ⟨a, ha, rfl⟩, hs'⟩ := hs'
      have := hs.2.2 a ha
      unfold FewA at this
      simp at hs'
      rcases hs' with rfl | rfl <;> omega)
    omega
  have h3 := encN_len x
  have h4 := attrS_len x.attrs
  have h5 := hs.1
  have h6 := hs.2.1
  have h7 := (intB_len (encN x).length (by omega) (by omega)).2
  rw [encE, List.length_append]
  omega

set_option maxRecDepth 10000 in
set_option maxHeartbeats 400000 in
theorem pw_codes (x y : PEntry) (bs : List Int) (hx : FitE x) (hy : FitE y) (hby : Byte bs) (x1 : x.vec.length ≤ 20000000000000) (x2 : x.attrs.length ≤ 20000000000000) (y1 : y.vec.length ≤ 20000000000000) (y2 : y.attrs.length ≤ 20000000000000) : PCalls Tryd.prog 3 [pentry x, pentry y, pbytes bs] (· = pbool true) := by
  refine pcalls_of_pw typeTab_ok Tryd.func3 rfl (by kernel_rfl) (by exact lw) (by simp [pentry, pbytes, PV.ownB]) (Nat.le_of_ble_eq_true rfl) ?_
  have c0 := pw_sanity
  have cx := pw_few x x2 x1
  have cy := pw_few y y2 y1
  cases fx : fewB x with
  | false =>
    rw [fx] at cx
    refine wk ?_
    exact retP rfl (by exact lw) rfl
  | true =>
  rw [fx] at cx
  cases fy : fewB y with
  | false =>
    rw [fy] at cy
    refine wk ?_
    exact retP rfl (by exact lw) rfl
  | true =>
  rw [fy] at cy
  refine wk ?_
  by_cases hl : bs.length ≤ 2000
  case neg =>
    refine wk ?_
    exact retP rfl (by exact lw) rfl
  have sx := few_small (fewB_few fx)
  have sy := few_small (fewB_few fy)
  have e1 := pcEncode x hx sx
  have e2 := pw_refEncode x hx sx
  have d1 := pw_decode bs hby (by omega)
  have d2 := pw_refDecode bs hby (by omega)
  have l1 := pw_leaf x hx sx (encE_few x hx (fewB_few fx))
  have l2 := pw_refLeaf x hx sx (encE_few x hx (fewB_few fx))
  have s1 := pw_attrSame x y (by have := sx.vec; omega) (by have := sy.vec; omega) (by have := sx.attrs; omega) (by have := sy.attrs; omega)
  have s2 := pw_refSame x y hx sx hy sy
  have hcmp : ((strI (encE x)).toList == (strI (encE y)).toList) = decide (x = y) := by
    by_cases h : x = y
    · subst h; simp
    · rw [decide_eq_false h]
      exact toList_ne (fun e => h (enc_inj x y hx sx hy sy (strI_inj (encE_byte x) (encE_byte y) e)))
  rw [hcmp] at s2
  have hpl : (leafI x).length = 16 := digI_len 14 [strI (encE x)]
  have hpd := peqs_dig (leafI x) hpl
  have hze : FitE (decE bs).1 ∧ SmallE (decE bs).1 := by
    by_cases h0 : (decE bs).2 = 0
    · exact dec_good bs hby (by omega) _ (by rw [← h0])
    · have hz : (decE bs).1 = zeroE := dec_zero bs h0
      rw [hz]
      exact ⟨⟨fit_small _ (by decide) (by decide), fit_small _ (by decide) (by decide), fit_small _ (by decide) (by decide), fit_small _ (by decide) (by decide), fit_small _ (by decide) (by decide), fit_small _ (by decide) (by decide), fit_small _ (by decide) (by decide), fun z hz => by simp [zeroE] at hz, fun z hz => by simp [zeroE] at hz⟩, ⟨by decide, by decide, fun z hz => by simp [zeroE] at hz⟩⟩
  obtain ⟨z, er, hz⟩ : ∃ z er, decE bs = (z, er) := ⟨_, _, rfl⟩
  rw [hz] at d1 d2 hze
  simp only at d1 d2 hze
  have s3 := pw_refSame z z hze.1 hze.2 hze.1 hze.2
  have hzz : ((strI (encE z)).toList == (strI (encE z)).toList) = true := by simp
  rw [hzz] at s3
  have hxx : ((strI (encE x)).toList == (strI (encE x)).toList) = true := by simp
  have her : (er == er) = true := by simp
  have hlx := low_entCells x
  have hly := low_entCells y
  have hlz := low_entCells z
  clear hzz hcmp hz fx fy
  generalize encE x = bx at *
  generalize leafI x = lx at *
  generalize decide (x = y) = dxy at *
  have hdd : (dxy == dxy) = true := by simp
  refine wk ?_
  refine PWops.eqA rfl rfl rfl rfl rfl rfl rfl rfl hpd (.inl rfl) ?_
  refine wk ?_
  exact retP rfl (by exact lw) rfl

theorem digI_eq_len {D : List Int} {tag : Int} {l : List ByteArray} (h : D = digI tag l) : D.length = 16 := by rw [h]; exact digI_len tag l

set_option maxRecDepth 10000 in
set_option maxHeartbeats 1000000 in
theorem pw_checks (s : PSchema) (nm : ByteArray) (hs1 : s.defs.length ≤ 20000000000000) (hs2 : ∀ d ∈ s.defs, d.words.length ≤ 20000000000000) (h1 : Fit64 s.dims) (h2 : Fit64 s.metric) (hd : ∀ d ∈ s.defs, FitD d) : PCalls Tryd.prog 4 [pschema s, pstr nm] (· = pbool true) := by
  refine pcalls_of_pw typeTab_ok Tryd.func4 rfl (by kernel_rfl) (by exact lw) (by simp [pschema, pstr, PV.ownB]) (Nat.le_of_ble_eq_true rfl) ?_
  have c0 := pw_sanity
  have cs := pw_fewDefs s hs1 hs2
  cases fs : fewDefsB s with
  | false =>
    rw [fs] at cs
    refine wk ?_
    exact retP rfl (by exact lw) rfl
  | true =>
  rw [fs] at cs
  have hF := fewDefsB_few fs
  have hS := hF.small
  have hl := hF.1
  refine wk ?_
  by_cases hn : nm.size ≤ 100
  case neg =>
    refine wk ?_
    exact retP rfl (by exact lw) rfl
  have k1 := pcCheck s hS
  have k2 := pcRefCheck s hS
  have n1 := pcName nm (by omega)
  have n2 := pcRefName nm (by omega)
  have g1 := pw_digest s hS h1 h2 hd (by omega)
  have g2 := pw_refDigest s hS h1 h2 hd (by omega)
  obtain ⟨D, hD⟩ : ∃ D, D = digI 13 (digP s.dims s.metric s.defs.length s.defs) := ⟨_, rfl⟩
  have hpd := peqs_dig D (digI_eq_len hD)
  rw [← hD] at g1 g2
  clear hD fs
  generalize checkE s = c at *
  generalize nameB nm = b at *
  have hc : (c != c) = false := by simp
  have hb : (b != b) = false := by simp
  refine wk ?_
  by_cases h0 : c = 0
  · subst h0
    refine wk ?_
    refine PWops.eqA rfl rfl rfl rfl rfl rfl rfl rfl hpd (.inl rfl) ?_
    refine wk ?_
    exact retP rfl (by exact lw) rfl
  · refine wk ?_
    exact retP rfl (by exact lw) rfl
end Go.Proofs.YtnjopfjmepbpoaaDoor

/- What every law's row asks behind the walk: it returns true, and nothing that was there has changed; and how its arguments are opened. -/
namespace Go.Proofs.YtnjopfjmepbpoaaDoor
set_option linter.unusedSimpArgs false
set_option linter.unusedVariables false
set_option linter.unnecessarySimpa false
open Go.ChangeShapes Go.WideShapes Go.ChangeAt Go.RowKit

theorem own : ownKnob Tryd.prog.godebug = none := by kernel_rfl
theorem laidOut : laidOutB Tryd.prog = true := by kernel_rfl

theorem trodAll_below {H : Type} {enc : TypeId × Value → H} {P : Program} (hl : laidOutB P = true) {W W' : World} (hb : Below W.heap.size W W') :
    ∀ (ts : List TypeId) (vs : List Value) (ds : List (DataW H)) (ps : List MemPlace), ts.all (fun t => P.readableRec t && decide (t < P.types.size)) = true → DataW.TrodAll enc P W 0 (fun _ => true) true ts vs ds ps →
      (∀ x ∈ ps, x.block < W.heap.size) → DataW.TrodAll enc P W' 0 (fun b => decide (b < W.heap.size)) true ts vs ds ps
  | [], [], [], ps, _, h, _ => h
  | t :: ts, v :: vs, d :: ds, ps, hr, h, hlt => by
    obtain ⟨p, q, h1, h2, rfl⟩ := h
    simp only [List.all_cons, Bool.and_eq_true, decide_eq_true_eq] at hr
    exact ⟨p, q, Below.trod hl hr.1.1 hr.1.2 h1 hb (fun x hx => hlt x (List.mem_append_left _ hx)), trodAll_below hl hb ts vs ds q hr.2 h2 (fun x hx => hlt x (List.mem_append_right _ hx)), rfl⟩
  | [], [], _ :: _, _, _, h, _ => by simp [DataW.TrodAll] at h
  | [], _ :: _, _, _, _, h, _ => by simp [DataW.TrodAll] at h
  | _ :: _, [], _, _, _, h, _ => by simp [DataW.TrodAll] at h
  | _ :: _, _ :: _, [], _, _, h, _ => by simp [DataW.TrodAll] at h

/-- The post of a law. -/
theorem post_law {H : Type} {enc : TypeId × Value → H} {P : Program} (hl : laidOutB P = true) {f : Func} {s : ChangeSpec} {W W' : World} {args : Array Value} {ds : List (DataW H)} {before : List MemPlace} {tb : TypeId}
    (htb : P.underlying tb = some .bool) (hres : f.resultTypes = #[tb]) (hvars : s.vars = []) (hread : f.params.toList.all (fun t => P.readableRec t && decide (t < P.types.size)) = true)
    (hW : DataW.Whole enc P f.params.toList s.vars false W args.toList ds [] before)
    (hr : (s.fn H (ds ++ [])).results = [.lit (.bool true)]) (ha : (s.fn H (ds ++ [])).args = ds) (hv : (s.fn H (ds ++ [])).vars = [])
    (hb : Below W.heap.size W W') : s.post enc P f false true false false W args (.bool true) W' := by
  have hW' := hW
  obtain ⟨p, q, hA, hV, rfl, _, _⟩ := hW
  rw [hvars] at hV
  obtain ⟨_, rfl⟩ := trodVars_none hV
  refine ⟨ds, [], p ++ [], [], p, [], hW', ?_, ?_, ?_, hb.frame _, fun h => by cases h⟩
  · rw [hr, hres]
    exact trodAll_cons_mk (shut_bool htb true) trodAll_mk0
  · rw [ha]
    exact trodAll_below hl hb _ _ _ _ hread hA (fun x hx => by simpa using hW'.lt x (by simp [hx]))
  · rw [hv, hvars]; rfl

/-- A slice of 64-bit integers among the arguments. -/
theorem open_Ints {H : Type} {enc : TypeId × Value → H} {P : Program} {W : World} {t e : TypeId} {v : Value} {d : DataW H} {p : List MemPlace} {base : Nat} (ht : P.underlying t = some (.slice e)) (he : P.underlying e = some (.int .i64)) (hc : P.cellsOf e = 1)
    (hval : Value.okWide P W .any base t v) (h : DataW.Trod enc P W 0 (fun _ => true) true t v d p) :
    ∃ zs : List Int, Ints W v zs ∧ (∀ z ∈ zs, -9223372036854775808 ≤ z ∧ z ≤ 9223372036854775807) ∧ ((zs = [] ∧ d = .nil) ∨ ∃ sp, d = .slice (lits .i64 zs) sp) := by
  obtain ⟨a0, len, cap, rfl⟩ := okWide_slice ht hval
  obtain ⟨fuel, hf⟩ := h
  rcases open_ints ht he hc hf with ⟨hcs, hx⟩ | ⟨a, len', cap', zs, hcs, _, hl, hm, hz, hx, hcell, hwz⟩
  · simp [Value.cells] at hcs
    obtain ⟨rfl, rfl, rfl⟩ := hcs
    simp only [Prod.mk.injEq] at hx
    exact ⟨[], ⟨none, 0, 0, 0, rfl, by simp, by simp [maxLen], fun h => by simp at h, fun j u hu => by simp at hu⟩, by simp, .inl ⟨rfl, hx.1⟩⟩
  · simp [Value.cells] at hcs
    obtain ⟨rfl, rfl, rfl⟩ := hcs
    simp only [Prod.mk.injEq] at hx
    simp only [if_true] at hz
    have hlen : (zs.take len).length = len := by rw [List.length_take]; omega
    refine ⟨zs.take len, ⟨some a, cap, a.block, a.off, by rw [List.length_map, hlen], by rw [List.length_map, hlen]; exact hl, hm, fun h => ?_, fun j u hu => ?_⟩, fun z hz' => ?_, .inr ⟨_, hx.1⟩⟩
    · rw [List.length_map, hlen] at h
      have hs := World.cell?_spot (hcell 0 (by omega))
      obtain ⟨b, off, spot⟩ := a
      have : spot = none := by simpa [Addr.add] using hs
      rw [this]
    · rw [List.getElem?_map] at hu
      obtain ⟨x, hx2, rfl⟩ := Option.map_eq_some_iff.1 hu
      have hj : j < len := by have := (List.getElem?_eq_some_iff.1 hx2).1; omega
      have hs := World.cell?_spot (hcell 0 (by omega))
      obtain ⟨b, off, spot⟩ := a
      have : spot = none := by simpa [Addr.add] using hs
      subst this
      have := hcell j (by omega)
      rw [add_plain] at this
      rw [this]
      rw [List.getElem?_take, if_pos hj] at hx2
      simp [List.getD, hx2]
    · have := hwz z (List.mem_of_mem_take hz')
      simpa [Lit.wf, IntKind.min, IntKind.max, IntKind.signed, IntKind.bits] using this

/-- The reach of the j-th argument. -/
theorem reach_Ints {H : Type} {P : Program} {ts : List TypeId} {ds : List (DataW H)} (hsz : (DataW.weightsEach P ts ds).all (· ≤ reachBytes) = true) (j : Nat) {t e : TypeId} {d : DataW H} {zs : List Int} (k : IntKind) (n : Nat) (ht : ts[j]? = some t) (hd : ds[j]? = some d) (hu : P.underlying t = some (.slice e)) (hb : P.bytesOf e = n)
    (h : (zs = [] ∧ d = .nil) ∨ ∃ sp, d = .slice (lits k zs) sp) : zs.length * n ≤ 140737488351232 := by
  rcases h with ⟨rfl, _⟩ | ⟨sp, rfl⟩
  · simp
  · have := sized_slice hsz ht hd hu
    rw [hb] at this
    simp only [lits, List.length_map, reachBytes] at this
    have h2 : zs.length * n ≤ (zs.length + sp.length) * n := Nat.mul_le_mul_right _ (by omega)
    omega

theorem cellsInt : Tryd.prog.cellsOf 3 = 1 := by kernel_rfl
theorem bytesInt : Tryd.prog.bytesOf 3 = 8 := by kernel_rfl

end Go.Proofs.YtnjopfjmepbpoaaDoor

/- How a law's arguments are opened, whatever their types; a law's row out of its contract over pure values. -/
namespace Go.Proofs.YtnjopfjmepbpoaaDoor
set_option linter.unusedSimpArgs false
set_option linter.unusedVariables false
set_option linter.unnecessarySimpa false
open Go.ChangeShapes Go.WideShapes Go.ChangeAt Go.RowKit

def immW (W : World) : Imm := fun b o => W.cell? ⟨b, o, none⟩

theorem RepL.append {Φ : Imm} {μ : Nat → Option Nat} {cs ds : List PV} {us vs : List Value} (h : RepL Φ μ cs us) (k : RepL Φ μ ds vs) : RepL Φ μ (cs ++ ds) (us ++ vs) := by
  refine ⟨by simp [h.1, k.1], fun j c u h1 h2 => ?_⟩
  by_cases hj : j < cs.length
  · rw [List.getElem?_append_left hj] at h1
    rw [List.getElem?_append_left (by rw [h.1]; exact hj)] at h2
    exact h.2 j c u h1 h2
  · rw [List.getElem?_append_right (by omega)] at h1
    rw [List.getElem?_append_right (by rw [h.1]; omega), h.1] at h2
    exact k.2 _ c u h1 h2

/-- Cells of the type t read as a value of α, whose cells are encoded by en. -/
def Opens (P : Program) (t : TypeId) {α : Type} (en : α → List PV) (ok : α → Prop) : Prop :=
  ∀ (H : Type) (enc : TypeId × Value → H) (W : World) (fuel : Nat) (cs : List Value) (d : DataW H) (pl : List MemPlace),
    DataW.trod enc P W 0 (fun _ => true) true fuel t cs = some (d, pl) → (∀ n ∈ d.weights P t, n ≤ reachBytes) → ∃ y : α, ok y ∧ RepL (immW W) mu0 (en y) cs

section
variable {P : Program} {t e : TypeId}
theorem Opens.map {α β : Type} {en : α → List PV} {ok : α → Prop} (h : Opens P t en ok) (g : α → β) {en' : β → List PV} {ok' : β → Prop} (hen : ∀ a, ok a → en' (g a) = en a) (hok : ∀ a, ok a → ok' (g a)) : Opens P t en' ok' := by
  intro H enc W fuel cs d pl h1 h2
  obtain ⟨y, k1, k2⟩ := h H enc W fuel cs d pl h1 h2
  exact ⟨g y, hok y k1, by rw [hen y k1]; exact k2⟩
theorem opens_int {k : IntKind} (ht : P.underlying t = some (.int k)) : Opens P t (fun z : Int => [.val (.int k z)]) (fun z => (Lit.int k z).wf = true) := by
  intro H enc W fuel cs d pl h hw
  obtain ⟨n, rfl, hx, hwf⟩ := DataW.trod_int ht h
  exact ⟨n, hwf, RepL.cons (.val _ rfl) RepL.nil⟩
theorem opens_bool (ht : P.underlying t = some .bool) : Opens P t (fun b : Bool => [.val (.bool b)]) (fun _ => True) := by
  intro H enc W fuel cs d pl h hw
  obtain ⟨n, rfl, hx⟩ := DataW.trod_bool ht h
  exact ⟨n, trivial, RepL.cons (.val _ rfl) RepL.nil⟩
theorem opens_str (ht : P.underlying t = some .string) : Opens P t (fun b : ByteArray => [.val (.string b)]) (fun b => b.size ≤ reachBytes) := by
  intro H enc W fuel cs d pl h hw
  obtain ⟨s, rfl, hx, hs⟩ := DataW.trod_string ht h
  refine ⟨s, ?_, RepL.cons (.val _ rfl) RepL.nil⟩
  cases hx
  have := hw s.data.toList.length (by simp [DataW.weights])
  simpa using this

theorem weights_mem {H : Type} {e : TypeId} : ∀ {l : List (DataW H)} {d : DataW H}, d ∈ l → ∀ n ∈ d.weights P e, n ∈ DataW.weightsAll P e l
  | x :: l, d, h, n, hn => by
    rw [DataW.weightsAll, List.mem_append]
    rcases List.mem_cons.1 h with rfl | h
    · exact .inl hn
    · exact .inr (weights_mem h n hn)

theorem opens_slice {α : Type} {en : α → List PV} {ok : α → Prop} {k b : Nat} (ht : P.underlying t = some (.slice e)) (hc : P.cellsOf e = k) (hk : 0 < k) (hb : P.bytesOf e = b) (he : Opens P e en ok) (hlen : ∀ x, ok x → (en x).length = k) :
    Opens P t (fun xs : List α => [.sl xs.length k (xs.flatMap en) none]) (fun xs => (∀ x ∈ xs, ok x) ∧ xs.length * b ≤ reachBytes) := by
  intro H enc W fuel cs d pl h hw
  rcases Deep.open_slice ht h with ⟨rfl, hx⟩ | ⟨a, len, cap, m, n, D, Pl, rfl, -, hl, hm, hmm, hx, hel⟩
  · exact ⟨[], ⟨by simp, by simp⟩, RepL.cons (.sl0 _ _ _ _ (by unfold maxLen; omega)) RepL.nil⟩
  · simp only [if_true] at hmm
    subst hmm
    cases hx
    have hall : ∀ i, i < len → ∃ y : α, ok y ∧ ∃ us, W.cells? 0 (a.add (i * P.cellsOf e)) (P.cellsOf e) = some us ∧ RepL (immW W) mu0 (en y) us := by
      intro i hi
      obtain ⟨us, h1, h2⟩ := hel i (by omega)
      obtain ⟨y, k1, k2⟩ := he H enc W n us (D i) (Pl i) h2 (fun x hx => by
        refine hw x ?_
        simp only [DataW.weights, ht, List.mem_cons, List.mem_append]
        exact .inr (.inl (weights_mem (List.mem_map.2 ⟨i, by simpa using hi, rfl⟩) x hx)))
      exact ⟨y, k1, us, h1, k2⟩
    have : ∃ xs : List α, xs.length = len ∧ ∀ i x, xs[i]? = some x → ok x ∧ ∃ us, W.cells? 0 (a.add (i * P.cellsOf e)) (P.cellsOf e) = some us ∧ RepL (immW W) mu0 (en x) us := by
      have key : ∀ j, j ≤ len → ∃ xs : List α, xs.length = j ∧ ∀ i x, xs[i]? = some x → ok x ∧ ∃ us, W.cells? 0 (a.add (i * P.cellsOf e)) (P.cellsOf e) = some us ∧ RepL (immW W) mu0 (en x) us := by
        intro j
        induction j with
        | zero => exact fun _ => ⟨[], rfl, fun i x hx => by simp at hx⟩
        | succ j ih =>
          intro hj
          obtain ⟨xs, h1, h2⟩ := ih (by omega)
          obtain ⟨y, k1, k2⟩ := hall j (by omega)
          refine ⟨xs ++ [y], by simp [h1], fun i x hx => ?_⟩
          by_cases hi : i < j
          · rw [List.getElem?_append_left (by omega)] at hx; exact h2 i x hx
          · rw [List.getElem?_append_right (by omega)] at hx
            have h0 : i - xs.length = 0 := by
              have := (List.getElem?_eq_some_iff.1 hx).1
              simp at this; omega
            rw [h0] at hx; simp at hx; subst hx
            obtain rfl : i = j := by omega
            exact ⟨k1, k2⟩
      exact key len (Nat.le_refl _)
    obtain ⟨xs, hxl, hxs⟩ := this
    refine ⟨xs, ⟨fun x hx => ?_, ?_⟩, RepL.cons ?_ RepL.nil⟩
    · obtain ⟨i, hi⟩ := List.getElem?_of_mem hx
      exact (hxs i x hi).1
    · have hw1 := hw (((List.range len).map D).length * P.bytesOf e + ((List.range (m - len)).map fun j => D (len + j)).length * P.bytesOf e) (by
        simp only [DataW.weights, ht, List.mem_cons, List.mem_append, Nat.add_mul]
        exact .inl trivial)
      simp only [List.length_map, List.length_range, hb] at hw1
      rw [hxl]; omega
    · by_cases h0 : len = 0
      · subst h0
        obtain rfl : xs = [] := List.eq_nil_of_length_eq_zero hxl
        exact .sl0 _ _ _ _ hm
      · obtain ⟨bl, off, spot⟩ := a
        have hfl : (xs.flatMap en).length = len * k := by
          rw [← hxl]
          have : ∀ (l : List α), (∀ x ∈ l, (en x).length = k) → (l.flatMap en).length = l.length * k := by
            intro l
            induction l with
            | nil => simp
            | cons x l ih => intro h; rw [List.flatMap_cons, List.length_append, h x (by simp), ih (fun y hy => h y (by simp [hy])), List.length_cons, Nat.succ_mul]; omega
          exact this xs (fun x hx => by
            obtain ⟨i, hi⟩ := List.getElem?_of_mem hx
            exact hlen x (hxs i x hi).1)
        have hcell : ∀ i r, i < len → r < k → ∃ x u, xs[i]? = some x ∧ W.cell? (Addr.add (Addr.add ⟨bl, off, spot⟩ (i * k)) r) = some u ∧ ∀ c, (en x)[r]? = some c → Rep (immW W) mu0 c u := by
          intro i r hi hr
          have hix : i < xs.length := by omega
          obtain ⟨k1, us, k2, k3⟩ := hxs i xs[i] (by simp [hix])
          obtain ⟨-, q2, q3⟩ := World.cells?_some k2
          rw [hc] at q2 q3
          have hru : r < us.length := by omega
          refine ⟨xs[i], us[r], by simp [hix], by rw [q3 r hr]; simp [hru], fun c hcc => k3.2 r c _ hcc (by simp [hru])⟩
        have hspot : spot = none := by
          obtain ⟨x, u, -, h2, -⟩ := hcell 0 0 (by omega) hk
          have := World.cell?_spot h2
          simpa [Addr.add] using this
        subst hspot
        rw [← hxl]
        refine .sl xs.length k _ none bl off m (fun j => (W.cell? ⟨bl, off + j, none⟩).getD undef) (by rw [hfl, hxl]) (by omega) hm (fun j hj => ?_) (fun j c hj => ?_)
        · rw [hfl] at hj
          have hq : j / k < len := by rw [Nat.div_lt_iff_lt_mul hk]; exact hj
          obtain ⟨x, u, -, h2, -⟩ := hcell (j / k) (j % k) hq (Nat.mod_lt _ hk)
          rw [Addr.add_lit, Addr.add_lit, Nat.add_assoc, Nat.mul_comm, Nat.div_add_mod] at h2
          simp only [immW, h2, Option.getD_some]
        · have hjl := (List.getElem?_eq_some_iff.1 hj).1
          rw [hfl] at hjl
          have hq : j / k < len := by rw [Nat.div_lt_iff_lt_mul hk]; exact hjl
          obtain ⟨x, u, h1, h2, h3⟩ := hcell (j / k) (j % k) hq (Nat.mod_lt _ hk)
          rw [Addr.add_lit, Addr.add_lit, Nat.add_assoc, Nat.mul_comm, Nat.div_add_mod] at h2
          rw [h2, Option.getD_some]
          refine h3 c ?_
          have hxk : ∀ x ∈ xs, (en x).length = k := fun x hx => by
            obtain ⟨i, hi⟩ := List.getElem?_of_mem hx
            exact hlen x (hxs i x hi).1
          have gen : ∀ (l : List α) (i r : Nat) (x : α), (∀ x ∈ l, (en x).length = k) → l[i]? = some x → r < k → (l.flatMap en)[i * k + r]? = (en x)[r]? := by
            intro l
            induction l with
            | nil => intro i r x _ h; simp at h
            | cons y l ih =>
              intro i r x hl h hr
              rw [List.flatMap_cons]
              cases i with
              | zero =>
                simp at h; subst h
                rw [Nat.zero_mul, Nat.zero_add, List.getElem?_append_left (by rw [hl y (by simp)]; exact hr)]
              | succ i =>
                simp at h
                have := ih i r x (fun z hz => hl z (by simp [hz])) h hr
                rw [List.getElem?_append_right (by rw [hl y (by simp), Nat.succ_mul]; omega), hl y (by simp), ← this]
                congr 1
                rw [Nat.succ_mul]; omega
          rw [← gen xs (j / k) (j % k) x hxk h1 (Nat.mod_lt _ hk), Nat.mul_comm, Nat.div_add_mod]
          exact hj

/-- Fields, from the cell o on, m cells in all. -/
def OpensFs (P : Program) (fs : List Field) (o m : Nat) {α : Type} (en : α → List PV) (ok : α → Prop) : Prop :=
  ∀ (H : Type) (enc : TypeId × Value → H) (W : World) (n : Nat) (cs : List Value) (xs : List (DataW H × List MemPlace)), xs.length = fs.length → (∀ (i : Nat) (f : Field), fs[i]? = some f → DataW.trod enc P W 0 (fun _ => true) true n f.type ((cs.drop f.offset).take (P.cellsOf f.type)) = xs[i]?) →
    (∀ k ∈ DataW.weightsEach P (fs.map (·.type)) (xs.map (·.1)), k ≤ reachBytes) → ∃ y : α, ok y ∧ RepL (immW W) mu0 (en y) ((cs.drop o).take m)

theorem opensFs_nil {o : Nat} : OpensFs P [] o 0 (fun _ : Unit => []) (fun _ => True) := by
  intro H enc W n cs xs _ _ _
  exact ⟨(), trivial, by simpa using RepL.nil⟩
theorem opensFs_cons {f : Field} {fs : List Field} {o k m : Nat} {α β : Type} {en1 : α → List PV} {ok1 : α → Prop} {en2 : β → List PV} {ok2 : β → Prop} (ho : f.offset = o) (hk : P.cellsOf f.type = k) (h1 : Opens P f.type en1 ok1) (h2 : OpensFs P fs (o + k) m en2 ok2) :
    OpensFs P (f :: fs) o (k + m) (fun p : α × β => en1 p.1 ++ en2 p.2) (fun p => ok1 p.1 ∧ ok2 p.2) := by
  intro H enc W n cs xs hl hx hw
  cases xs with
  | nil => simp at hl
  | cons x xs =>
    have e0 := hx 0 f rfl
    rw [ho, hk] at e0
    obtain ⟨y, k1, k2⟩ := h1 H enc W n _ x.1 x.2 e0 (fun z hz => hw z (by simp only [List.map_cons, DataW.weightsEach, List.mem_append]; exact .inl hz))
    obtain ⟨z, k3, k4⟩ := h2 H enc W n cs xs (by simpa using hl) (fun i g hg => by have := hx (i + 1) g (by simpa using hg); simpa using this) (fun z hz => hw z (by simp only [List.map_cons, DataW.weightsEach, List.mem_append]; exact .inr hz))
    refine ⟨(y, z), ⟨k1, k3⟩, ?_⟩
    rw [List.take_add, List.drop_drop]
    exact k2.append k4
theorem opensFs_1 {f : Field} {fs : List Field} {o m : Nat} {α β : Type} {en1 : α → List PV} {ok1 : α → Prop} {en2 : β → List PV} {ok2 : β → Prop} (ho : f.offset = o) (h1 : Opens P f.type en1 ok1) (hk : P.cellsOf f.type = 1) (h2 : OpensFs P fs (o + 1) m en2 ok2) :
    OpensFs P (f :: fs) o (m + 1) (fun p : α × β => en1 p.1 ++ en2 p.2) (fun p => ok1 p.1 ∧ ok2 p.2) := by
  rw [Nat.add_comm m 1]; exact opensFs_cons ho hk h1 h2
theorem opens_struct {fs : Array Field} {m : Nat} {α : Type} {en : α → List PV} {ok : α → Prop} (ht : P.underlying t = some (.struct fs)) (hf : OpensFs P fs.toList 0 m en ok) (hc : P.cellsOf t = m) : Opens P t en ok := by
  intro H enc W fuel cs d pl h hw
  obtain ⟨xs, n, rfl, hx, h3, h4, h5⟩ := DataW.trod_struct ht h
  cases hx
  obtain ⟨y, k1, k2⟩ := hf H enc W n cs xs (by simpa using h4) (fun i f hf => h5 i f (by simpa using hf)) (fun z hz => hw z (by simpa only [DataW.weights, ht] using hz))
  refine ⟨y, k1, ?_⟩
  rwa [List.drop_zero, List.take_of_length_le (by omega)] at k2

/-- An argument. -/
def ArgOpens (P : Program) (t : TypeId) {α : Type} (pe : α → PV) (ok : α → Prop) : Prop :=
  ∀ (H : Type) (enc : TypeId × Value → H) (W : World) (base : Nat) (v : Value) (d : DataW H) (pl : List MemPlace), Value.okWide P W .any base t v → DataW.Trod enc P W 0 (fun _ => true) true t v d pl → (∀ n ∈ d.weights P t, n ≤ reachBytes) → ∃ y : α, ok y ∧ Rep (immW W) mu0 (pe y) v
theorem repL_one1 {Φ : Imm} {μ : Nat → Option Nat} {p : PV} {v : Value} (h : RepL Φ μ [p] [v]) : Rep Φ μ p v := h.2 0 p v rfl rfl
theorem arg_int {k : IntKind} (ht : P.underlying t = some (.int k)) : ArgOpens P t (fun z : Int => .val (.int k z)) (fun z => (Lit.int k z).wf = true) := by
  intro H enc W base v d pl hv ⟨fuel, h⟩ hw
  obtain ⟨z, rfl⟩ := okWide_int ht hv
  obtain ⟨y, k1, k2⟩ := opens_int ht H enc W fuel _ d pl h hw
  exact ⟨y, k1, repL_one1 k2⟩
theorem arg_str (ht : P.underlying t = some .string) : ArgOpens P t (fun z : ByteArray => .val (.string z)) (fun z => z.size ≤ reachBytes) := by
  intro H enc W base v d pl hv ⟨fuel, h⟩ hw
  obtain ⟨z, rfl⟩ := okWide_string ht hv
  obtain ⟨y, k1, k2⟩ := opens_str ht H enc W fuel _ d pl h hw
  exact ⟨y, k1, repL_one1 k2⟩
theorem arg_slice {α : Type} {pe : α → PV} {ok : α → Prop} (ht : P.underlying t = some (.slice e)) (h0 : Opens P t (fun x => [pe x]) ok) : ArgOpens P t pe ok := by
  intro H enc W base v d pl hv ⟨fuel, h⟩ hw
  obtain ⟨a, l, c, rfl⟩ := okWide_slice ht hv
  obtain ⟨y, k1, k2⟩ := h0 H enc W fuel _ d pl h hw
  exact ⟨y, k1, repL_one1 k2⟩
theorem arg_struct {fs : Array Field} {α : Type} {en : α → List PV} {ok : α → Prop} (ht : P.underlying t = some (.struct fs)) (h0 : Opens P t en ok) : ArgOpens P t (fun x => .agg (en x)) ok := by
  intro H enc W base v d pl hv ⟨fuel, h⟩ hw
  obtain ⟨cs, rfl, -⟩ := okWide_struct ht hv
  obtain ⟨y, k1, k2⟩ := h0 H enc W fuel _ d pl h hw
  refine ⟨y, k1, ?_⟩
  have := k2.agg
  simpa [Value.cells] using this
theorem ArgOpens.map {α β : Type} {pe : α → PV} {ok : α → Prop} (h : ArgOpens P t pe ok) (g : α → β) {pe' : β → PV} {ok' : β → Prop} (hen : ∀ a, ok a → pe' (g a) = pe a) (hok : ∀ a, ok a → ok' (g a)) : ArgOpens P t pe' ok' := by
  intro H enc W base v d pl h0 h1 h2
  obtain ⟨y, k1, k2⟩ := h H enc W base v d pl h0 h1 h2
  exact ⟨g y, hok y k1, by rw [hen y k1]; exact k2⟩

/-- All arguments. -/
def ArgsOpen (P : Program) (ts : List TypeId) {α : Type} (en : α → List PV) (ok : α → Prop) : Prop :=
  ∀ (H : Type) (enc : TypeId × Value → H) (W : World) (base : Nat) (vs : List Value) (ds : List (DataW H)) (pl : List MemPlace), (∀ (j : Nat) t v, ts[j]? = some t → vs[j]? = some v → Value.okWide P W .any base t v) → DataW.TrodAll enc P W 0 (fun _ => true) true ts vs ds pl →
    (∀ n ∈ DataW.weightsEach P ts ds, n ≤ reachBytes) → ds.length = ts.length ∧ ∃ y : α, ok y ∧ RepL (immW W) mu0 (en y) vs
theorem argsOpen_nil : ArgsOpen P [] (fun _ : Unit => []) (fun _ => True) := by
  intro H enc W base vs ds pl _ h _
  obtain ⟨rfl, rfl, rfl⟩ := trodAll_nil h
  exact ⟨rfl, (), trivial, RepL.nil⟩
theorem argsOpen_cons {ts : List TypeId} {α β : Type} {pe : α → PV} {ok1 : α → Prop} {en : β → List PV} {ok2 : β → Prop} (h1 : ArgOpens P t pe ok1) (h2 : ArgsOpen P ts en ok2) : ArgsOpen P (t :: ts) (fun p : α × β => pe p.1 :: en p.2) (fun p => ok1 p.1 ∧ ok2 p.2) := by
  intro H enc W base vs ds pl hv h hw
  match vs, ds, h with
  | v :: vs, d :: ds, h =>
    obtain ⟨p, q, g1, g2, -⟩ := h
    obtain ⟨y, k1, k2⟩ := h1 H enc W base v d p (hv 0 t v rfl rfl) g1 (fun z hz => hw z (by simp only [DataW.weightsEach, List.mem_append]; exact .inl hz))
    obtain ⟨hl, z, k3, k4⟩ := h2 H enc W base vs ds q (fun j t v e1 e2 => hv (j + 1) t v (by simpa using e1) (by simpa using e2)) g2 (fun z hz => hw z (by simp only [DataW.weightsEach, List.mem_append]; exact .inr hz))
    exact ⟨by simp [hl], (y, z), ⟨k1, k3⟩, RepL.cons k2 k4⟩
  | [], [], h => simp [DataW.TrodAll] at h
  | [], _ :: _, h => simp [DataW.TrodAll] at h
  | _ :: _, [], h => simp [DataW.TrodAll] at h
end

set_option maxRecDepth 100000 in
/-- A law's row: its contract over pure values is all that is wanted. -/
theorem law_lifted {f : FuncId} {fn : Func} {s : ChangeSpec} {conds : List PathCond} {tb : TypeId} {α : Type} {en : α → List PV} {ok : α → Prop} (os : Os) (started : os.Started) (H : Type) (enc : TypeId × Value → H) (hfn : Tryd.checked.prog.funcs[f]? = some fn) (noInit : Tryd.checked.prog.inits.idxOf? f = none)
    (witness : ∃ (w : World) (tape : Tape) (i : Input), w.os = os ∧ (w.forCall tape i).Shaped Tryd.checked.prog ∧ i.vars = [] ∧ Input.okWide Tryd.checked.prog (w.forCall tape i) .any w.heap.size f i ∧
      s.pre6 enc Tryd.checked.prog fn conds false (w.forCall tape i).memory i.args ∧ ({} : Assume).holds Tryd.checked.prog (lone (Frame.enter Tryd.checked.prog f i.args .normal) [] (w.forCall tape i)))
    (htb : Tryd.prog.underlying tb = some .bool) (hres : fn.resultTypes = #[tb]) (hvars : s.vars = []) (hread : fn.params.toList.all (fun t => Tryd.prog.readableRec t && decide (t < Tryd.prog.types.size)) = true)
    (hspec : ∀ ds : List (DataW H), ds.length = fn.params.size → (s.fn H (ds ++ [])).results = [.lit (.bool true)] ∧ (s.fn H (ds ++ [])).args = ds ∧ (s.fn H (ds ++ [])).vars = [])
    (hargs : ArgsOpen Tryd.prog fn.params.toList en ok) (hc : ∀ y, ok y → PCalls Tryd.prog f (en y) (· = pbool true)) (hgt : globTab = [] := by rfl) :
    ReturnsInHanded {} Tryd.checked os f .any (s.pre6 enc Tryd.prog fn conds false) (s.post enc Tryd.prog fn false true false false) := by
  refine returnsInHanded_of_change_sized (C := Tryd.checked) own started noInit hfn witness ?_
  intro W base args ds gs before hval0 hW _ hsz _
  have hval : ∀ (j : Nat) t v, fn.params[j]? = some t → args[j]? = some v → Value.okWide Tryd.prog W .any base t v := hval0
  have hW' := hW
  obtain ⟨p, q, hA, hV, rfl, _, _⟩ := hW
  rw [hvars] at hV
  obtain ⟨rfl, rfl⟩ := trodVars_none hV
  have hvt : s.plain.varTypes Tryd.prog = [] := by simp [ChangeSpec.plain, DataSpec.varTypes, hvars]
  rw [show s.plain.varTypes Tryd.checked.prog = [] from hvt, List.append_nil, List.append_nil, List.all_eq_true] at hsz
  obtain ⟨hl, y, hy, hr⟩ := hargs H enc W base args.toList ds p (fun j t v h1 h2 => hval j t v (by simpa using h1) (by simpa using h2)) hA (fun n hn => of_decide_eq_true (hsz n hn))
  obtain ⟨s1, s2, s3⟩ := hspec ds (by simpa using hl)
  have hcall := (hc y hy).2 (immW W) mu0 W args.toList (fun b o u h => h) (fun x hx => by rw [hgt] at hx; cases hx) hr
  rw [Array.toArray_toList] at hcall
  refine hcall.mono ?_
  rintro e W' ⟨r, v, Φ', rfl, rfl, hrep, -, -, hb, -⟩
  obtain ⟨rfl, -⟩ := hrep.val_inv
  exact ⟨_, rfl, post_law laidOut htb hres hvars hread hW' s1 s2 s3 hb⟩

set_option maxRecDepth 100000 in
/-- The same where the row lists tables. -/
theorem law_liftedL {f : FuncId} {fn : Func} {s : ChangeSpec} {conds : List PathCond} {tb : TypeId} {α : Type} {en : α → List PV} {ok : α → Prop} {laid : List (String × DataW Unit)} (os : Os) (started : os.Started) (H : Type) (enc : TypeId × Value → H) (hfn : Tryd.checked.prog.funcs[f]? = some fn) (noInit : Tryd.checked.prog.inits.idxOf? f = none)
    (witness : ∃ (w : World) (tape : Tape) (i : Input), w.os = os ∧ (w.forCall tape i).Shaped Tryd.checked.prog ∧ i.vars = [] ∧ Input.okWide Tryd.checked.prog (w.forCall tape i) .any w.heap.size f i ∧
      ((s.pre enc Tryd.checked.prog fn conds false (w.forCall tape i).memory i.args ∧ laidMetH Tryd.prog laid (w.forCall tape i).memory) ∧ sizedMet enc Tryd.checked.prog fn (OpenSpec.ofChange s) false (w.forCall tape i).memory i.args) ∧ ({} : Assume).holds Tryd.checked.prog (lone (Frame.enter Tryd.checked.prog f i.args .normal) [] (w.forCall tape i)))
    (htb : Tryd.prog.underlying tb = some .bool) (hres : fn.resultTypes = #[tb]) (hvars : s.vars = []) (hread : fn.params.toList.all (fun t => Tryd.prog.readableRec t && decide (t < Tryd.prog.types.size)) = true)
    (hspec : ∀ ds : List (DataW H), ds.length = fn.params.size → (s.fn H (ds ++ [])).results = [.lit (.bool true)] ∧ (s.fn H (ds ++ [])).args = ds ∧ (s.fn H (ds ++ [])).vars = [])
    (hargs : ArgsOpen Tryd.prog fn.params.toList en ok) (hc : ∀ y, ok y → PCalls Tryd.prog f (en y) (· = pbool true))
    (hglob : ∀ W, laidMetH Tryd.prog laid W → ∀ x ∈ globTab, ∀ j z, x.2.2[j]? = some z → W.cell? ⟨x.1, j, none⟩ = some (.int x.2.1 z)) :
    ReturnsInHanded {} Tryd.checked os f .any (fun w args => (s.pre enc Tryd.prog fn conds false w args ∧ laidMetH Tryd.prog laid w) ∧ sizedMet enc Tryd.prog fn (OpenSpec.ofChange s) false w args) (s.post enc Tryd.prog fn false true false false) := by
  refine returnsInHanded_of_change_and (C := Tryd.checked) (X := fun w _ => laidMetH Tryd.prog laid w) (fun _ _ _ hh h => h.of_heap hh) own started noInit hfn witness ?_
  intro W base args ds gs before hval0 hW _ hsz hL _
  have hval : ∀ (j : Nat) t v, fn.params[j]? = some t → args[j]? = some v → Value.okWide Tryd.prog W .any base t v := hval0
  have hW' := hW
  obtain ⟨p, q, hA, hV, rfl, _, _⟩ := hW
  rw [hvars] at hV
  obtain ⟨rfl, rfl⟩ := trodVars_none hV
  have hvt : s.plain.varTypes Tryd.prog = [] := by simp [ChangeSpec.plain, DataSpec.varTypes, hvars]
  rw [show s.plain.varTypes Tryd.checked.prog = [] from hvt, List.append_nil, List.append_nil, List.all_eq_true] at hsz
  obtain ⟨hl, y, hy, hr⟩ := hargs H enc W base args.toList ds p (fun j t v h1 h2 => hval j t v (by simpa using h1) (by simpa using h2)) hA (fun n hn => of_decide_eq_true (hsz n hn))
  obtain ⟨s1, s2, s3⟩ := hspec ds (by simpa using hl)
  have hcall := (hc y hy).2 (immW W) mu0 W args.toList (fun b o u h => h) (hglob W hL) hr
  rw [Array.toArray_toList] at hcall
  refine hcall.mono ?_
  rintro e W' ⟨r, v, Φ', rfl, rfl, hrep, -, -, hb, -⟩
  obtain ⟨rfl, -⟩ := hrep.val_inv
  exact ⟨_, rfl, post_law laidOut htb hres hvars hread hW' s1 s2 s3 hb⟩

/-- A listed table of integers: its cells. -/
theorem glob_of_reads {P : Program} {W : World} {n : String} {k : IntKind} {zs : List Int} {g : Nat} {t e : TypeId} {m : Nat} (hg : P.globalNamed n = some g) (hty : (P.globals[g]?).map (·.type) = some t) (ht : P.underlying t = some (.array m e)) (he : P.underlying e = some (.int k)) (hce : P.cellsOf e = 1) (hct : P.cellsOf t = m) (h : Lib.VarReads P W n (Lib.tabData k zs)) : ∀ j z, zs[j]? = some z → W.cell? ⟨g, j, none⟩ = some (.int k z) := by
  obtain ⟨g', t', cs, fuel, p, h1, h2, h3, h4⟩ := h
  obtain rfl := Option.some.inj (hg.symm.trans h1)
  obtain rfl := Option.some.inj (hty.symm.trans h2)
  have hc := Lib.cells_of_tab ht he hce hct h4
  intro j z hz
  have := World.var?_cell hg h3 j
  rw [this]
  have hcs : cs[j]? = cs.toList[j]? := by simp
  rw [hcs, hc]
  simp [hz]
end Go.Proofs.YtnjopfjmepbpoaaDoor

/- The arguments of the laws of attr, opened. -/
namespace Go.Proofs.YtnjopfjmepbpoaaDoor
set_option linter.unusedSimpArgs false
set_option linter.unusedVariables false
set_option linter.unnecessarySimpa false
open Go.ChangeShapes Go.WideShapes Go.ChangeAt Go.RowKit

theorem wf64 {z : Int} (h : (Lit.int .i64 z).wf = true) : Fit64 z := by
  simp [Lit.wf, IntKind.min, IntKind.max, IntKind.signed, IntKind.bits] at h
  exact ⟨by omega, by omega⟩
theorem wf8 {z : Int} (h : (Lit.int .u8 z).wf = true) : 0 ≤ z ∧ z < 256 := by
  simp [Lit.wf, IntKind.min, IntKind.max, IntKind.signed, IntKind.bits] at h
  exact ⟨by omega, by omega⟩
theorem opensInt : Opens Tryd.prog 3 (fun z => [pint z]) Fit64 := (opens_int Tryd.underlying3).map id (fun _ _ => rfl) (fun _ h => wf64 h)
theorem opensByte : Opens Tryd.prog 5 (fun z => [pbyte z]) (fun z => 0 ≤ z ∧ z < 256) := (opens_int Tryd.underlying5).map id (fun _ _ => rfl) (fun _ h => wf8 h)
theorem opensStr : Opens Tryd.prog 9 (fun z => [pstr z]) (fun s => s.size ≤ reachBytes) := opens_str Tryd.underlying9
theorem flatMap_one {α : Type} (f : α → PV) (l : List α) : l.flatMap (fun x => [f x]) = l.map f := by
  induction l with
  | nil => rfl
  | cons x l ih => simp [ih]
theorem opensInts : Opens Tryd.prog 22 (fun l => [pints l]) (fun l => (∀ z ∈ l, Fit64 z) ∧ l.length * 8 ≤ reachBytes) :=
  (opens_slice Tryd.underlying22 (by kernel_rfl) (by decide) (by kernel_rfl) opensInt (fun _ _ => rfl)).map id (fun a _ => by show [pints a] = _; rw [flatMap_one]; rfl) (fun _ h => h)
theorem opensBytes : Opens Tryd.prog 26 (fun l => [pbytes l]) (fun l => (∀ z ∈ l, 0 ≤ z ∧ z < 256) ∧ l.length * 1 ≤ reachBytes) :=
  (opens_slice Tryd.underlying26 (by kernel_rfl) (by decide) (by kernel_rfl) opensByte (fun _ _ => rfl)).map id (fun a _ => by show [pbytes a] = _; rw [flatMap_one]; rfl) (fun _ h => h)
theorem opensStrs : Opens Tryd.prog 58 (fun l => [pstrs l]) (fun l => (∀ z ∈ l, z.size ≤ reachBytes) ∧ l.length * 16 ≤ reachBytes) :=
  (opens_slice Tryd.underlying58 (by kernel_rfl) (by decide) (by kernel_rfl) opensStr (fun _ _ => rfl)).map id (fun a _ => by show [pstrs a] = _; rw [flatMap_one]; rfl) (fun _ h => h)
theorem opensAttr : Opens Tryd.prog 50 pattrL (fun a => Fit64 a.kind ∧ Fit64 a.n) :=
  (opens_struct Tryd.underlying50 (opensFs_1 rfl opensStr (by kernel_rfl) (opensFs_1 rfl opensInt (by kernel_rfl) (opensFs_1 rfl opensInt (by kernel_rfl) (opensFs_1 rfl opensStr (by kernel_rfl) opensFs_nil)))) (by kernel_rfl)).map
    (fun p => ⟨p.1, p.2.1, p.2.2.1, p.2.2.2.1⟩) (fun _ _ => rfl) (fun _ h => ⟨h.2.1, h.2.2.1⟩)
theorem opensAttrs : Opens Tryd.prog 23 (fun l => [pattrs l]) (fun l => (∀ a ∈ l, Fit64 a.kind ∧ Fit64 a.n) ∧ l.length * 48 ≤ reachBytes) :=
  (opens_slice Tryd.underlying23 (by kernel_rfl) (by decide) (by kernel_rfl) opensAttr (fun _ _ => rfl)).map id (fun a _ => rfl) (fun _ h => h)
theorem opensDef : Opens Tryd.prog 74 pdefL (fun d => Fit64 d.kind ∧ Fit64 d.lo ∧ Fit64 d.hi ∧ d.words.length * 16 ≤ reachBytes) :=
  (opens_struct Tryd.underlying74 (opensFs_1 rfl opensStr (by kernel_rfl) (opensFs_1 rfl opensInt (by kernel_rfl) (opensFs_1 rfl opensInt (by kernel_rfl) (opensFs_1 rfl opensInt (by kernel_rfl) (opensFs_1 rfl opensStrs (by kernel_rfl) opensFs_nil))))) (by kernel_rfl)).map
    (fun p => ⟨p.1, p.2.1, p.2.2.1, p.2.2.2.1, p.2.2.2.2.1⟩) (fun _ _ => rfl) (fun _ h => by obtain ⟨a, b, c, d, e, f⟩ := h; exact ⟨b, c, d, e.2⟩)
theorem opensDefs : Opens Tryd.prog 41 (fun l => [pdefs l]) (fun l => (∀ d ∈ l, Fit64 d.kind ∧ Fit64 d.lo ∧ Fit64 d.hi ∧ d.words.length * 16 ≤ reachBytes) ∧ l.length * 64 ≤ reachBytes) :=
  (opens_slice Tryd.underlying41 (by kernel_rfl) (by decide) (by kernel_rfl) opensDef (fun _ _ => rfl)).map id (fun a _ => rfl) (fun _ h => h)
structure GoodS (s : PSchema) : Prop where
  dims : Fit64 s.dims
  metric : Fit64 s.metric
  defs : ∀ d ∈ s.defs, Fit64 d.kind ∧ Fit64 d.lo ∧ Fit64 d.hi ∧ d.words.length * 16 ≤ reachBytes
  len : s.defs.length * 64 ≤ reachBytes
theorem argSchema : ArgOpens Tryd.prog 43 pschema GoodS :=
  (arg_struct Tryd.underlying43 (opens_struct Tryd.underlying43 (opensFs_1 rfl opensInt (by kernel_rfl) (opensFs_1 rfl opensInt (by kernel_rfl) (opensFs_1 rfl opensDefs (by kernel_rfl) opensFs_nil))) (by kernel_rfl))).map
    (fun p => ⟨p.1, p.2.1, p.2.2.1⟩) (fun _ _ => rfl) (fun _ h => by obtain ⟨a, b, c, d⟩ := h; exact ⟨a, b, c.1, c.2⟩)
structure GoodE (e : PEntry) : Prop where
  fit : FitE e
  vec : e.vec.length * 8 ≤ reachBytes
  attrs : e.attrs.length * 48 ≤ reachBytes
theorem argEntry : ArgOpens Tryd.prog 25 pentry GoodE :=
  (arg_struct Tryd.underlying25 (opens_struct Tryd.underlying25 (opensFs_1 rfl opensInt (by kernel_rfl) (opensFs_1 rfl opensInt (by kernel_rfl) (opensFs_1 rfl opensInt (by kernel_rfl) (opensFs_1 rfl opensInt (by kernel_rfl) (opensFs_1 rfl opensInt (by kernel_rfl) (opensFs_1 rfl opensInt (by kernel_rfl) (opensFs_1 rfl opensInt (by kernel_rfl) (opensFs_1 rfl opensInts (by kernel_rfl) (opensFs_1 rfl opensAttrs (by kernel_rfl) opensFs_nil))))))))) (by kernel_rfl))).map
    (fun p => ⟨p.1, p.2.1, p.2.2.1, p.2.2.2.1, p.2.2.2.2.1, p.2.2.2.2.2.1, p.2.2.2.2.2.2.1, p.2.2.2.2.2.2.2.1, p.2.2.2.2.2.2.2.2.1⟩) (fun _ _ => rfl) (fun _ h => by obtain ⟨h1, h2, h3, h4, h5, h6, h7, h8, h9, _⟩ := h; exact ⟨⟨h1, h2, h3, h4, h5, h6, h7, h8.1, h9.1⟩, h8.2, h9.2⟩)
theorem argBytes : ArgOpens Tryd.prog 26 pbytes (fun l => (∀ z ∈ l, 0 ≤ z ∧ z < 256) ∧ l.length * 1 ≤ reachBytes) := arg_slice Tryd.underlying26 opensBytes
theorem argStr : ArgOpens Tryd.prog 9 pstr (fun s => s.size ≤ reachBytes) := arg_str Tryd.underlying9
theorem argInt : ArgOpens Tryd.prog 3 pint Fit64 := (arg_int Tryd.underlying3).map id (fun _ _ => rfl) (fun _ h => wf64 h)
theorem argByte : ArgOpens Tryd.prog 5 pbyte (fun z => 0 ≤ z ∧ z < 256) := (arg_int Tryd.underlying5).map id (fun _ _ => rfl) (fun _ h => wf8 h)
theorem reach_eq : reachBytes = 140737488351232 := rfl
end Go.Proofs.YtnjopfjmepbpoaaDoor

/- What the rows list: the tables are there when the call begins. -/
namespace Go.Proofs.YtnjopfjmepbpoaaDoor
open Go.RowKit
def laidL : List (String × DataW Unit) := [("antiquary/antiquaryref02.constants", Rows.laid_antiquary_antiquaryref02_constants), ("antiquary/hash.constants", Rows.laid_antiquary_hash_constants)]
theorem door_met (os : Os) (args : Array Value) : laidMetH Tryd.prog laidL ((World.doorLaid Tryd.prog 2000 os).forCall (fun _ _ => 0) ⟨#[], args, []⟩).memory :=
  laidMetH_of_parts3 (fuel := 8) (laidMet_of_run' 8 (by kernel_rfl) (by kernel_rfl)) (by kernel_rfl) (by kernel_rfl)
theorem laid_glob (W : World) (h : laidMetH Tryd.prog laidL W) : ∀ x ∈ globTab, ∀ j z, x.2.2[j]? = some z → W.cell? ⟨x.1, j, none⟩ = some (.int x.2.1 z) := by
  rw [MakeChecks.laidMetH_plain _ _ _ (by kernel_rfl)] at h
  intro x hx
  simp only [globTab, List.mem_cons, List.not_mem_nil, or_false] at hx
  rcases hx with rfl | rfl
  · exact glob_of_reads (n := "antiquary/hash.constants") (zs := glob0) (t := 124) (e := 101) (m := 64) (by kernel_rfl) (by kernel_rfl) (by kernel_rfl) (by kernel_rfl) (by kernel_rfl) (by kernel_rfl) (Lib.laidMet.reads h (.tail _ (.head _)))
  · exact glob_of_reads (n := "antiquary/antiquaryref02.constants") (zs := glob1) (t := 124) (e := 101) (m := 64) (by kernel_rfl) (by kernel_rfl) (by kernel_rfl) (by kernel_rfl) (by kernel_rfl) (by kernel_rfl) (Lib.laidMet.reads h (.head _))
end Go.Proofs.YtnjopfjmepbpoaaDoor
