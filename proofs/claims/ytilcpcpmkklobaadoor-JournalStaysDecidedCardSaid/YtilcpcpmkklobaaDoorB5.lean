/- Merged: Jh, Ji, Jk, Ha, Hb, PlainA, PlainB, PlainC, PlainW, PlainX, PlainY, PlainD, PlainF, PlainM, PlainZ, PlainS, Hc, Hd, PwQ0, BitOps, Wire, Hu, He, Jf, Jl, Lo, Jm, Ka, Kb, Kc. -/
import Derived.WalkKit
import Derived.Test.YtilcpcpmkklobaaDoorB4
/- The journal: the second part of an Apply. -/
namespace Go.Proofs.YtilcpcpmkklobaaDoor
set_option linter.unusedSimpArgs false
set_option linter.unusedVariables false
set_option linter.unnecessarySimpa false
open Go.RowKit

theorem stepsP_renR {ρ : Nat → Nat} {S : Nat → Prop} {a b c d e f : Nat} (h1 : S a) (h2 : S b) (h3 : S c) (h4 : S d) (h5 : S e) (h6 : S f) : Ren ρ S (stepsP a b c d e f) (stepsP (ρ a) (ρ b) (ρ c) (ρ d) (ρ e) (ρ f)) := by
  have k1 : RenL ρ S [.ptr b 0, .ptr a 0] [.ptr (ρ b) 0, .ptr (ρ a) 0] := .cons (.ptr _ _ h2) (.cons (.ptr _ _ h1) .nil)
  have k2 : RenL ρ S [.ptr f 0] [.ptr (ρ f) 0] := .cons (.ptr _ _ h6) .nil
  have k3 : RenL ρ S [.ptr d 0, .ptr e 0, .ptr c 0] [.ptr (ρ d) 0, .ptr (ρ e) 0, .ptr (ρ c) 0] := .cons (.ptr _ _ h4) (.cons (.ptr _ _ h5) (.cons (.ptr _ _ h3) .nil))
  have k : RenL ρ S [putF b a, syncF f, headF c d e, syncF f] [putF (ρ b) (ρ a), syncF (ρ f), headF (ρ c) (ρ d) (ρ e), syncF (ρ f)] := .cons (.fn _ _ _ k1.1 k1.2) (.cons (.fn _ _ _ k2.1 k2.2) (.cons (.fn _ _ _ k3.1 k3.2) (.cons (.fn _ _ _ k2.1 k2.2) .nil)))
  exact .sl _ _ _ _ k.1 k.2
def idsA (d c m j b0 b1 b2 b3 b4 : Nat) : List (Nat × Nat) := ids4 d c m j ++ [(1000005, b0), (1000006, b1), (1000007, b2), (1000008, b3), (1000009, b4)]
theorem jc_all (most : Int) {N k : Nat} {D : DM} (h : OkD N k D) (at_ n : Int) (h0 : 0 ≤ at_) (h1 : at_ < N) (n0 : 0 ≤ n) (n1 : n < 65536) (G : List Int) (hG : G.length = 16) (hr : ∀ x ∈ G, 0 ≤ x ∧ x < 256) (l : List PPut) (hi : InD N l) (hk : k + l.length + 3 ≤ 100000000) (hNN : N ≤ 1000000000) (d c m j b0 b1 b2 b3 b4 : Nat) (hd : ([d, c, m, j, b0, b1, b2, b3, b4] : List Nat).Nodup) : HCalls Tryd.prog 28 [stepsP b0 b1 b2 b3 b4 d]
    ((b0, [.ptr j 0]) :: (b1, [pputs l]) :: (b2, [.ptr j 0]) :: (b3, [pint n]) :: (b4, G.map pbyte) :: jG d c m j at_ most D) (dMs m D) (pint 0)
    ((b0, [.ptr j 0]) :: (b1, [pputs l]) :: (b2, [.ptr j 0]) :: (b3, [pint n]) :: (b4, G.map pbyte) :: jG d c m j at_ most (D.four at_ l (headSec n G hG hr))) (dMs m (D.four at_ l (headSec n G hG hr))) := by
  have hl : ∀ c ∈ G.map pbyte, Low c := low_map (fun _ => Low.val _) _
  refine (jc_all1 most h at_ n h0 h1 n0 n1 G hG hr l hi hk hNN).at (idsA d c m j b0 b1 b2 b3 b4) (by simpa [ids4, idsA] using hd) (by simp [ResIds, jG, dG, dMs, ids4, idsA]) (by simp [jG, dG]) (by simp [dMs]) ?_ ?_ ?_ ?_ ?_ ?_
  · exact .cons (stepsP_renR (by first | simp [ResIds, dG, dMs, jG] | simp [ResIds, dG, dMs, crG, crM] | simp [ResIds, dG, dMs]) (by first | simp [ResIds, dG, dMs, jG] | simp [ResIds, dG, dMs, crG, crM] | simp [ResIds, dG, dMs]) (by first | simp [ResIds, dG, dMs, jG] | simp [ResIds, dG, dMs, crG, crM] | simp [ResIds, dG, dMs]) (by first | simp [ResIds, dG, dMs, jG] | simp [ResIds, dG, dMs, crG, crM] | simp [ResIds, dG, dMs]) (by first | simp [ResIds, dG, dMs, jG] | simp [ResIds, dG, dMs, crG, crM] | simp [ResIds, dG, dMs]) (by first | simp [ResIds, dG, dMs, jG] | simp [ResIds, dG, dMs, crG, crM] | simp [ResIds, dG, dMs])) .nil
  all_goals exact ren0

/-- The second part: the change itself, the head is emptied. -/
def zeroDig : List Int := List.replicate 16 0
theorem zeroDig_ok : ∀ x ∈ zeroDig, 0 ≤ x ∧ x < 256 := by decide
def emptyHead : Sec := headSec 0 zeroDig rfl zeroDig_ok
set_option maxRecDepth 10000 in
set_option maxHeartbeats 2000000 in
theorem jc_finish1 (most : Int) {N k : Nat} {D : DM} (h : OkD N k D) (at_ : Int) (h0 : 0 ≤ at_) (h1 : at_ < N) (l : List PPut) (hi : InD N l) (hk : k + l.length + 3 ≤ 100000000) (hNN : N ≤ 1000000000) : HCalls Tryd.prog 34 [.ptr 1000004 0, pputs l] (jG 1000001 1000002 1000003 1000004 at_ most D) (dMs 1000003 D) (pint 0) (jG 1000001 1000002 1000003 1000004 at_ most (D.four at_ l emptyHead)) (dMs 1000003 (D.four at_ l emptyHead)) := by
  refine hcalls_of_pw typeTab_ok Tryd.func34 rfl rfl (by simp [PV.ownB, pputs]) (Nat.le_of_ble_eq_true rfl) (by simp [ResIds, jG, dG, dMs]) (by simp [ResIds, jG, dG, dMs]) (by exact hok0) ?_
  have hput := jc_put at_ most D l 1000001 1000002 1000003 1000004 900005 900006 (by decide)
  have hsync := jc_sync at_ most D 1000001 1000002 1000003 1000004 (by decide)
  have hhead := jc_head at_ most D 0 zeroDig rfl 1000001 1000002 1000003 1000004 900007 900008 900009 (by decide)
  have hall := jc_all most h at_ 0 h0 h1 (by decide) (by decide) zeroDig rfl zeroDig_ok l hi hk hNN 1000001 1000002 1000003 1000004 900005 900006 900007 900008 900009 (by decide)
  refine wk ?_
  exact RetH.mk rfl (Weak.refl _) ⟨⟨_, rfl, WeakL.refl _⟩, ⟨_, rfl, WeakL.refl _⟩, ⟨_, rfl, WeakL.refl _⟩, trivial⟩ ⟨⟨rfl, rfl⟩, trivial⟩
theorem jc_finish (most : Int) {N k : Nat} {D : DM} (h : OkD N k D) (at_ : Int) (h0 : 0 ≤ at_) (h1 : at_ < N) (l : List PPut) (hi : InD N l) (hk : k + l.length + 3 ≤ 100000000) (hNN : N ≤ 1000000000) (d c m j : Nat) (hd : ([d, c, m, j] : List Nat).Nodup) : HCalls Tryd.prog 34 [.ptr j 0, pputs l] (jG d c m j at_ most D) (dMs m D) (pint 0) (jG d c m j at_ most (D.four at_ l emptyHead)) (dMs m (D.four at_ l emptyHead)) := by
  refine (jc_finish1 most h at_ h0 h1 l hi hk hNN).at (ids4 d c m j) hd (by simp [ResIds, jG, dG, dMs, ids4]) (by simp [jG, dG]) (by simp [dMs]) ?_ ?_ ?_ ?_ ?_ ?_ <;> exact ren0
end Go.Proofs.YtilcpcpmkklobaaDoor

/- The journal: the area. -/
namespace Go.Proofs.YtilcpcpmkklobaaDoor
set_option linter.unusedSimpArgs false
set_option linter.unusedVariables false
set_option linter.unnecessarySimpa false
open Go.RowKit

/-- The sectors of numbers after so many bytes. -/
def rowsT (l : List PPut) (R : Nat) : Nat → List Sec
  | 0 => List.replicate R zeroSec
  | t + 1 => (rowsT l R t).set (t / 64) (setB ((rowsT l R t).getD (t / 64) default) (t % 64) ((l.getD (t / 4) default).sec.fdiv (2 ^ min (8 * (t % 4)) 64)))
theorem rowsT_len (l : List PPut) (R : Nat) : ∀ t, (rowsT l R t).length = R
  | 0 => List.length_replicate ..
  | t + 1 => by rw [rowsT, List.length_set, rowsT_len l R t]
theorem rows0 (l : List PPut) (R : Nat) : (List.replicate (R : Int).toNat (List.replicate 64 (pbyte 0))).flatten = (rowsT l R 0).flatMap secL := by
  rw [rowsT, List.flatMap, List.map_replicate]; rfl
theorem rowsF_len (l : List PPut) (R t : Nat) : ((rowsT l R t).flatMap secL).length = R * 64 := by rw [flatMap_len (fun _ => secL_len _), rowsT_len]
theorem set_row (z : Int) (k : Nat) (hk : k < 64) : ∀ (rs : List Sec) (r : Nat), r < rs.length → (rs.flatMap secL).set (r * 64 + k) (pbyte (IntKind.u8.wrap z)) = (rs.set r (setB (rs.getD r default) k z)).flatMap secL
  | [], r, h => absurd h (by simp)
  | s :: rs, 0, _ => by
    rw [List.flatMap_cons, List.set_append_left _ _ (by rw [secL_len]; omega), List.set_cons_zero, List.flatMap_cons]
    show _ = List.map pbyte (s.1.set k _) ++ _
    rw [List.map_set, Nat.zero_mul, Nat.zero_add]; rfl
  | s :: rs, r + 1, h => by
    rw [List.flatMap_cons, List.set_append_right _ _ (by rw [secL_len]; omega), secL_len, show (r + 1) * 64 + k - 64 = r * 64 + k by omega, set_row z k hk rs r (by simpa using h), List.set_cons_succ, List.flatMap_cons]
    rfl
theorem row_step (l : List PPut) (R i e : Nat) (hi : i / 16 < R) (he : e < 4) : splice ((rowsT l R (4 * i + e)).flatMap secL) (0 + ((i : Int) / 16).toNat * 64 + ((i : Int) % 16 * 4 + e).toNat * 1) [pbyte (IntKind.u8.wrap ((l.getD i default).sec.fdiv (2 ^ min (8 * (e : Int)).toNat 64)))] = (rowsT l R (4 * i + (e + 1))).flatMap secL := by
  have e1 : 0 + ((i : Int) / 16).toNat * 64 + ((i : Int) % 16 * 4 + e).toNat * 1 = i / 16 * 64 + (i % 16 * 4 + e) := by omega
  have e2 : (4 * i + e) / 64 = i / 16 := by omega
  have e3 : (4 * i + e) % 64 = i % 16 * 4 + e := by omega
  have e4 : (4 * i + e) / 4 = i := by omega
  have e5 : (8 * (e : Int)).toNat = 8 * ((4 * i + e) % 4) := by omega
  rw [e1, splice_one (by rw [rowsF_len]; omega), set_row _ _ (by omega) _ _ (by rw [rowsT_len]; omega), ← Nat.add_assoc (4 * i) e 1, rowsT, e2, e3, e4, e5]
/-- The change's own sectors in the area. -/
def areaP (at_ most : Int) (l : List PPut) : List PPut := (List.range l.length).map fun (i : Nat) => ⟨at_ + 1 + numbersI most + i, (l.getD i default).dat⟩
def areaN (at_ : Int) (rs : List Sec) : List PPut := (List.range rs.length).map fun (i : Nat) => ⟨at_ + 1 + i, rs.getD i default⟩
def areaJ (at_ most : Int) (l : List PPut) : List PPut := areaP at_ most l ++ areaN at_ (rowsT l (numbersI l.length).toNat (4 * l.length))
/-- The list so far. -/
def outA (l : List PPut) : Nat → PV
  | 0 => .nilsl
  | k + 1 => .sl (k + 1) 65 ((l.take (k + 1)).flatMap putL) (some 59)
theorem low_outA (l : List PPut) : ∀ k, Low (outA l k)
  | 0 => .nilsl
  | k + 1 => .sl _ _ _ _ (flat_low putL_low _)

theorem fill_put (z : Int) (s : Sec) : pfill (fun i => (([(0, 1, false), (1, 64, true)] : List (Nat × Nat × Bool))[i]?).map fun x => (x.1, x.2.1)) ([PV.val (.int .i64 0)] ++ List.replicate 64 (PV.val (.int .u8 0))) [(0, pint z), (1, .agg (secL s))] = some (putL ⟨z, s⟩) := by
  have h1 : pcells (pint z) = some [pint z] := rfl
  have h2 : pcells (.agg (secL s)) = some (secL s) := by rw [pcells, secL_one, secL_bare]; rfl
  rw [pfill, h1]
  show (if [pint z].length = 1 ∧ 0 + 1 ≤ 65 then pfill _ (pint z :: List.replicate 64 (PV.val (.int .u8 0))) [(1, .agg (secL s))] else none) = _
  rw [if_pos ⟨rfl, by decide⟩, pfill, h2]
  show (if (secL s).length = 64 ∧ 1 + 64 ≤ 65 then pfill _ (splF (pint z :: List.replicate 64 (PV.val (.int .u8 0))) 1 (secL s)) [] else none) = _
  rw [if_pos ⟨secL_len s, by decide⟩, pfill, splF_eq _ _ _ (by rw [secL_len]; exact Nat.le_of_ble_eq_true rfl), splice, secL_len]
  show some (pint z :: ([] ++ secL s ++ [])) = _
  rw [List.nil_append, List.append_nil]; rfl
theorem areaP_get (at_ most : Int) (l : List PPut) (k : Nat) (h : k < l.length) : (areaP at_ most l).getD k default = ⟨at_ + 1 + numbersI most + k, (l.getD k default).dat⟩ := by
  rw [areaP, List.getD_eq_getElem?_getD, List.getElem?_map, List.getElem?_range h]; rfl
theorem areaP_len (at_ most : Int) (l : List PPut) : (areaP at_ most l).length = l.length := by simp [areaP]
theorem outA_area (at_ most : Int) (l : List PPut) (k : Nat) (h : k < l.length) : outA (areaP at_ most l) (k + 1) = .sl (k + 1) 65 (((areaP at_ most l).take k).flatMap putL ++ putL ⟨at_ + 1 + numbersI most + k, (l.getD k default).dat⟩) (some 59) := by
  rw [outA, take_getD default (by rw [areaP_len]; exact h), areaP_get at_ most l k h, List.flatMap_append]
  show PV.sl _ _ (_ ++ (putL _ ++ [])) _ = _
  rw [List.append_nil]
theorem outA_full (at_ most : Int) (l : List PPut) (h : 0 < l.length) : outA (areaP at_ most l) l.length = .sl l.length 65 ((areaP at_ most l).flatMap putL) (some 59) := by
  have e := areaP_len at_ most l
  generalize areaP at_ most l = A at *
  rw [← e] at h ⊢
  cases A with
  | nil => exact absurd h (by simp)
  | cons a A => show outA (a :: A) (A.length + 1) = _; rw [outA, List.take_of_length_le (by simp)]; rfl
section
variable {P : Program} {T : Tab} {σ : PS} {o : Oper} {i base : Nat} {ops : Array Oper} {ok : Nat → Nat → Bool} {rest : List (Nat × Oper)} {K : PS → Prop}
/-- A struct of which two fields are given. -/
theorem PWops.bld2 {d f g : Nat} {out : List PV} {px py : PV} {x y : Operand} {t : TypeId} {ti : TyI} {l : List (Nat × Nat × Bool)} (hg : pguard ops σ o = some true) (hd : o.dst = some d) (hop : o.op = .build t #[(f, x), (g, y)]) (hx : pev σ x = px) (hy : pev σ y = py) (ht : T.at t = some ti) (hk : ti.kind = .struct l) (hb : σ.freeB (base + i) = true) (hf : pfill (fun i => (l[i]?).map fun x => (x.1, x.2.1)) ti.zero [(f, px), (g, py)] = some out)
    (kn : PWops P T ops base ok rest K (σ.put d (.agg out))) : PWops P T ops base ok ((i, o) :: rest) K σ := by
  refine PWops.valEq hg hd (p := .agg out) ?_ rfl hb kn
  simp only [hop, presE, pvalA, pval, ht, pbuild, hk, List.map_cons, List.map_nil, pev_only, hx, hy, hf, Option.map_some]
end

set_option maxRecDepth 10000 in
set_option maxHeartbeats 2000000 in
theorem jc_area1 (at_ most : Int) (D : DM) (l : List PPut) (h0 : 0 ≤ at_) (h1 : at_ < 1000000000) (m0 : 1 ≤ most) (m1 : most ≤ 1024) (hl : l.length ≤ 1024) (hl0 : 0 < l.length) : HCalls Tryd.prog 30 [.ptr 1000004 0, pputs l] (jG 1000001 1000002 1000003 1000004 at_ most D) (dMs 1000003 D) (pputs (areaJ at_ most l)) (jG 1000001 1000002 1000003 1000004 at_ most D) (dMs 1000003 D) := by
  have hll := low_pputs l
  have hla := low_pputs (areaJ at_ most l)
  have c1 := dC_low D
  have c2 := dM_low D
  refine hcalls_of_pw typeTab_ok Tryd.func30 rfl rfl (by simp [PV.ownB, pputs]) (Nat.le_of_ble_eq_true rfl) (by simp [ResIds, jG, dG, dMs]) (by simp [ResIds, jG, dG, dMs]) (by exact hok0) ?_
  have hn := pw_numbers l.length (by omega) (by omega)
  have hnm := pw_numbers most (by omega) (by omega)
  obtain ⟨R, hR⟩ : ∃ R : Nat, numbersI l.length = R := ⟨(numbersI l.length).toNat, by unfold numbersI; omega⟩
  have hRb : R ≤ 64 := by unfold numbersI at hR; omega
  rw [hR] at hn
  refine wk ?_
  refine PWops.mkS (out := (rowsT l R 0).flatMap secL) rfl rfl rfl rfl rfl rfl rfl rfl ⟨by omega, by omega, by omega⟩ (rows0 l R) ?_
  refine wk ?_
  rw [Int.toNat_natCast]
  have a1 := low_outA (areaP at_ most l)
  have a2 : ∀ k, ∀ c ∈ (rowsT l R k).flatMap secL, Low c := fun k => flat_low secL_low _
  have a3 := rowsF_len l R
  have hRl : (R : Int) = ((l.length : Int) + 15) / 16 := hR.symm
  refine PW.loop (fun i : Nat => ((((((((((bot.setb 1000004 (jB 1000001 at_ most)).setb 1000001 (dB 1000002 1000003 D)).setb 1000002 (dC D)).setm 1000003 (dM D)).setb 1003 ((rowsT l R (4 * i)).flatMap secL)).put 0 (.ptr 1000004 0)).put 5 (.msl 1003 0 R 64)).put 6 (outA (areaP at_ most l) i)).put 16 (pputs l)).put 17 (pint l.length)).put 18 (pint i)) (fun i => i ≤ l.length) (fun i => l.length - i) 0 (by omega) ?_ ?_
  · have b1 := a1 0
    have b2 := a2 0
    exact sb
  · intro i hi
    by_cases hlt : i < l.length
    · refine wk ?_
      refine PW.loop (fun e : Nat => (((((((((((((bot.setb 1000004 (jB 1000001 at_ most)).setb 1000001 (dB 1000002 1000003 D)).setb 1000002 (dC D)).setm 1000003 (dM D)).setb 1003 ((rowsT l R (4 * i + e)).flatMap secL)).setb 5003 (putL (l.getD i default))).put 0 (.ptr 1000004 0)).put 5 (.msl 1003 0 R 64)).put 6 (outA (areaP at_ most l) i)).put 7 (pint i)).put 8 (.ptr 5003 0)).put 16 (pputs l)).put 17 (pint l.length)).put 18 (pint i) |>.put 23 (pint e)) (fun e => e ≤ 4) (fun e => 4 - e) 0 (by omega) ?_ ?_
      · have b1 := a1 i
        have b2 := a2 (4 * i + 0)
        have hp := putL_low (l.getD i default)
        exact sb
      · intro e he
        by_cases hlt4 : e < 4
        · have hi16 : (i : Int) / 16 < R := by omega
          have hi0 : 0 ≤ (i : Int) / 16 := by omega
          have hj0 : 0 ≤ (i : Int) % 16 * 4 + e := by omega
          have hj1 : (i : Int) % 16 * 4 + e < 64 := by omega
          refine wk ?_
          refine PWops.stB (out := (rowsT l R (4 * i + (e + 1))).flatMap secL) rfl rfl rfl rfl rfl rfl rfl rfl rfl ⟨rfl, by rw [a3]; simp only [List.length_cons, List.length_nil]; omega⟩ (row_step l R i e (by omega) hlt4) ?_
          have b1 := a1 i
          have b2 := a2 (4 * i + (e + 1))
          have hp := putL_low (l.getD i default)
          refine wk ?_
          refine loopP (e + 1) (by omega) (by omega) ?_
          exact sb
        · have ee : e = 4 := by omega
          subst ee
          have ho := outA_area at_ most l i hlt
          have b1 := a1 (i + 1)
          rw [ho] at b1
          have hnb : 0 ≤ numbersI most ∧ numbersI most ≤ 1000 := by unfold numbersI; omega
          generalize hnM : numbersI most = nM at *
          cases i with
          | zero =>
            refine wk ?_
            generalize l.getD (0) default = p at *
            refine PWops.ldBA (row := secL p.dat) rfl rfl rfl rfl rfl rfl rfl (by rw [putL_len]; decide) (by show List.map PV.bare (List.take 64 (secL p.dat)) = secL p.dat; rw [List.take_of_length_le (by rw [secL_len]; omega), secL_bare]) ?_
            refine PWops.bld2 (out := putL ⟨at_ + 1 + nM + ((0 : Nat) : Int), p.dat⟩) rfl rfl rfl rfl rfl rfl rfl rfl ?_ ?_
            · exact fill_put _ _
            refine wk ?_
            refine loopP (0 + 1) (by omega) (by omega) ?_
            try dsimp only
            rw [ho, show 4 * (0 + 1) = 4 * (0) + 4 by omega]
            have b2 := a2 (4 * (0) + 4)
            exact sb
          | succ k =>
            refine wk ?_
            generalize l.getD (k + 1) default = p at *
            refine PWops.ldBA (row := secL p.dat) rfl rfl rfl rfl rfl rfl rfl (by rw [putL_len]; decide) (by show List.map PV.bare (List.take 64 (secL p.dat)) = secL p.dat; rw [List.take_of_length_le (by rw [secL_len]; omega), secL_bare]) ?_
            refine PWops.bld2 (out := putL ⟨at_ + 1 + nM + ((k + 1 : Nat) : Int), p.dat⟩) rfl rfl rfl rfl rfl rfl rfl rfl ?_ ?_
            · exact fill_put _ _
            refine wk ?_
            refine loopP (k + 1 + 1) (by omega) (by omega) ?_
            try dsimp only
            rw [ho, show 4 * (k + 1 + 1) = 4 * (k + 1) + 4 by omega]
            have b2 := a2 (4 * (k + 1) + 4)
            exact sb
    · have e : i = l.length := by omega
      subst e
      rw [outA_full at_ most l hl0]
      have b0 : Low (.sl l.length 65 ((areaP at_ most l).flatMap putL) (some 59)) := .sl _ _ _ _ (flat_low putL_low _)
      have b2 := a2 (4 * l.length)
      have a4 := rowsT_len l R (4 * l.length)
      have a5 : areaJ at_ most l = areaP at_ most l ++ areaN at_ (rowsT l R (4 * l.length)) := by rw [areaJ, hR, Int.toNat_natCast]
      have a6 := areaP_len at_ most l
      rw [a5]
      clear a5 hla a2 a3 a1 hRl
      generalize rowsT l R (4 * l.length) = rs at *
      generalize areaP at_ most l = A at *
      refine wk ?_
      refine PW.loop (fun i : Nat => ((((((((((bot.setb 1000004 (jB 1000001 at_ most)).setb 1000001 (dB 1000002 1000003 D)).setb 1000002 (dC D)).setm 1000003 (dM D)).setb 1003 (rs.flatMap secL)).put 0 (.ptr 1000004 0)).put 6 (.sl (l.length + i) 65 (A.flatMap putL ++ ((areaN at_ rs).take i).flatMap putL) (some 59))).put 63 (.msl 1003 0 R 64)).put 64 (pint R)).put 65 (pint i))) (fun i => i ≤ R) (fun i => R - i) 0 (by omega) ?_ ?_
      · rw [show A.flatMap putL ++ ((areaN at_ rs).take 0).flatMap putL = A.flatMap putL by simp, Nat.add_zero]
        exact sb
      · intro i hi
        by_cases hlt : i < R
        · have hrow : (((rs.flatMap secL).drop (0 + (i : Int).toNat * 64)).take 64).map PV.bare = secL (rs.getD i default) := by
            rw [show 0 + (i : Int).toNat * 64 = i * 64 by omega, flatMap_row (fun _ => secL_len _) (x := rs.getD i default) (by rw [List.getD_eq_getElem?_getD, List.getElem?_eq_getElem (by omega)]; rfl), secL_bare]
          have hlen : (rs.flatMap secL).length = R * 64 := by rw [flatMap_len (fun _ => secL_len _), a4]
          refine wg ?_
          refine PW.region typeTab_ok (by kernel_rfl) ?_
          refine wg ?_
          refine PW.region typeTab_ok (by kernel_rfl) ?_
          (refine ops0 ?_)
          (refine ops0 ?_)
          refine PWops.ldBA (row := secL (rs.getD i default)) rfl rfl rfl rfl rfl rfl rfl (by rw [hlen]; omega) hrow ?_
          clear hrow
          obtain ⟨s, hs⟩ : ∃ s, s = rs.getD i default := ⟨_, rfl⟩
          rw [← hs]
          have hsl := secL_low s
          have hN : (areaN at_ rs).take (i + 1) = (areaN at_ rs).take i ++ [⟨at_ + 1 + i, s⟩] := by
            rw [take_getD default (by simp [areaN]; omega)]
            have : (areaN at_ rs).getD i default = ⟨at_ + 1 + i, s⟩ := by
              rw [areaN, List.getD_eq_getElem?_getD, List.getElem?_map, List.getElem?_range (by omega), hs]; rfl
            rw [this]
          clear hs
          refine wk ?_
          refine PWops.bld2 (out := putL ⟨at_ + 1 + (i : Int), s⟩) rfl rfl rfl rfl rfl rfl rfl rfl (fill_put _ _) ?_
          refine wk ?_
          refine loopP (i + 1) (by omega) (by omega) ?_
          have b6 : Low (.sl (l.length + i + 1) 65 (A.flatMap putL ++ ((areaN at_ rs).take i).flatMap putL ++ putL ⟨at_ + 1 + (i : Int), s⟩) (some 59)) := .sl _ _ _ _ (fun c hc => (List.mem_append.1 hc).elim (fun hc => (List.mem_append.1 hc).elim (flat_low putL_low _ c) (flat_low putL_low _ c)) (putL_low _ c))
          try dsimp only
          rw [hN, List.flatMap_append, show ([⟨at_ + 1 + (i : Int), s⟩] : List PPut).flatMap putL = putL ⟨at_ + 1 + (i : Int), s⟩ from List.append_nil _, ← List.append_assoc, ← Nat.add_assoc]
          exact sb
        · have e : i = R := by omega
          subst e
          have a7 : (areaN at_ rs).length = i := by simp [areaN, a4]
          rw [List.take_of_length_le (by omega), show pputs (A ++ areaN at_ rs) = .sl (l.length + i) 65 (A.flatMap putL ++ (areaN at_ rs).flatMap putL) none by rw [pputs, List.length_append, a6, a7, List.flatMap_append]]
          have b5 : Low (.sl (l.length + i) 65 (A.flatMap putL ++ (areaN at_ rs).flatMap putL) (some 59)) := .sl _ _ _ _ (fun c hc => (List.mem_append.1 hc).elim (flat_low putL_low _ c) (flat_low putL_low _ c))
          generalize A.flatMap putL ++ (areaN at_ rs).flatMap putL = B at *
          refine wk ?_
          exact RetH.mk rfl (Weak.refl _) ⟨⟨_, rfl, WeakL.refl _⟩, ⟨_, rfl, WeakL.refl _⟩, ⟨_, rfl, WeakL.refl _⟩, trivial⟩ ⟨⟨rfl, rfl⟩, trivial⟩
end Go.Proofs.YtilcpcpmkklobaaDoor

/- The journal: the area, for all numbers. -/
namespace Go.Proofs.YtilcpcpmkklobaaDoor
set_option linter.unusedSimpArgs false
set_option linter.unusedVariables false
set_option linter.unnecessarySimpa false
open Go.RowKit

theorem jc_area (at_ most : Int) (D : DM) (l : List PPut) (h0 : 0 ≤ at_) (h1 : at_ < 1000000000) (m0 : 1 ≤ most) (m1 : most ≤ 1024) (hl : l.length ≤ 1024) (hl0 : 0 < l.length) (d c m j : Nat) (hd : ([d, c, m, j] : List Nat).Nodup) : HCalls Tryd.prog 30 [.ptr j 0, pputs l] (jG d c m j at_ most D) (dMs m D) (pputs (areaJ at_ most l)) (jG d c m j at_ most D) (dMs m D) := by
  refine (jc_area1 at_ most D l h0 h1 m0 m1 hl hl0).at (ids4 d c m j) hd (by simp [ResIds, jG, dG, dMs, ids4]) (by simp [jG, dG]) (by simp [dMs]) ?_ ?_ ?_ ?_ ?_ ?_ <;> exact ren0
end Go.Proofs.YtilcpcpmkklobaaDoor

/- The hash: words, their operations; rotations; the schedule. -/
namespace Go.Proofs.YtilcpcpmkklobaaDoor
set_option linter.unusedSimpArgs false
set_option linter.unusedVariables false
set_option linter.unnecessarySimpa false
open Go.RowKit

def addU (a b : Int) : Int := IntKind.u32.wrap (a + b)
def xorU (a b : Int) : Int := IntKind.u32.wrap (BitVec.ofInt IntKind.u32.bits a ^^^ BitVec.ofInt IntKind.u32.bits b).toNat
def andU (a b : Int) : Int := IntKind.u32.wrap (BitVec.ofInt IntKind.u32.bits a &&& BitVec.ofInt IntKind.u32.bits b).toNat
def orU (a b : Int) : Int := IntKind.u32.wrap (BitVec.ofInt IntKind.u32.bits a ||| BitVec.ofInt IntKind.u32.bits b).toNat
def shlU (a : Int) (n : Nat) : Int := IntKind.u32.wrap (a * 2 ^ n)
def shrU (a : Int) (n : Nat) : Int := a.fdiv (2 ^ n)
def notU (a : Int) : Int := IntKind.u32.wrap (BitVec.ofInt IntKind.u32.bits 4294967295 ^^^ BitVec.ofInt IntKind.u32.bits a).toNat
def rotI (x : Int) (r : Nat) : Int := orU (shlU x (32 - r)) (shrU x r)

set_option maxRecDepth 10000 in
set_option maxHeartbeats 1000000 in
theorem pw_rotl (x : Int) (r : Nat) (hr : r ∈ [2, 6, 7, 11, 13, 17, 18, 19, 22, 25]) : PCalls Tryd.prog 74 [pu32 x, pint (-(r : Int))] (· = pu32 (rotI x r)) := by
  refine pcalls_of_pw typeTab_ok Tryd.func74 rfl (by kernel_rfl) (by exact lw) (by simp [pu32, pint, PV.ownB]) (Nat.le_of_ble_eq_true rfl) ?_
  simp only [List.mem_cons, List.not_mem_nil, or_false] at hr
  rcases hr with rfl | rfl | rfl | rfl | rfl | rfl | rfl | rfl | rfl | rfl
  all_goals
    refine wk ?_
    refine retP rfl (by exact lw) rfl

def mixI (x : Int) (i j k : Nat) : Int := xorU (xorU (rotI x i) (rotI x j)) (rotI x k)
set_option maxRecDepth 10000 in
set_option maxHeartbeats 1000000 in
theorem pw_mixA (x : Int) : PCalls Tryd.prog 67 [pu32 x, pint 6, pint 11, pint 25] (· = pu32 (mixI x 6 11 25)) := by
  refine pcalls_of_pw typeTab_ok Tryd.func67 rfl (by kernel_rfl) (by exact lw) (by simp [pu32, pint, PV.ownB]) (Nat.le_of_ble_eq_true rfl) ?_
  have r1 := pw_rotl x 6 (by simp)
  have r2 := pw_rotl x 11 (by simp)
  have r3 := pw_rotl x 25 (by simp)
  refine wk ?_
  refine retP rfl (by exact lw) rfl
set_option maxRecDepth 10000 in
set_option maxHeartbeats 1000000 in
theorem pw_mixB (x : Int) : PCalls Tryd.prog 67 [pu32 x, pint 2, pint 13, pint 22] (· = pu32 (mixI x 2 13 22)) := by
  refine pcalls_of_pw typeTab_ok Tryd.func67 rfl (by kernel_rfl) (by exact lw) (by simp [pu32, pint, PV.ownB]) (Nat.le_of_ble_eq_true rfl) ?_
  have r1 := pw_rotl x 2 (by simp)
  have r2 := pw_rotl x 13 (by simp)
  have r3 := pw_rotl x 22 (by simp)
  refine wk ?_
  refine retP rfl (by exact lw) rfl

def beI (l : List Int) : Int := l.foldl (fun a x => orU (shlU a 8) (IntKind.u32.wrap x)) 0
def sigI (x : Int) (i j k : Nat) : Int := xorU (xorU (rotI x i) (rotI x j)) (shrU x k)
def schV (W : List Int) (t : Nat) : Int := addU (addU (addU (W.getD (t - 16) 0) (sigI (W.getD (t - 15) 0) 7 18 3)) (W.getD (t - 7) 0)) (sigI (W.getD (t - 2) 0) 17 19 10)
def schW (b : List Int) : Nat → List Int
  | 0 => List.replicate 64 0
  | t + 1 => (schW b t).set t (if t < 16 then beI ((b.drop (4 * t)).take 4) else schV (schW b t) t)
theorem schW_len (b : List Int) : ∀ t, (schW b t).length = 64
  | 0 => by simp [schW]
  | t + 1 => by rw [schW, List.length_set, schW_len b t]
def schI (W C : List Int) (t j : Nat) : List Int := W.set t (beI (C.take j))
theorem hgetD_set {l : List Int} {t : Nat} {x d : Int} (h : t < l.length) : (l.set t x).getD t d = x := by
  rw [List.getD_eq_getElem?_getD, List.getElem?_set_self h]; rfl
theorem beI_succ {C : List Int} {j : Nat} (h : j < C.length) : beI (C.take (j + 1)) = orU (shlU (beI (C.take j)) 8) (IntKind.u32.wrap (C.getD j default)) := by
  rw [take_getD default h, beI, List.foldl_append]; rfl
theorem schI_succ {W C : List Int} {t j : Nat} (ht : t < W.length) (h : j < C.length) : schI W C t (j + 1) = (schI W C t j).set t (orU (shlU ((schI W C t j).getD t default) 8) (IntKind.u32.wrap (C.getD j default))) := by
  rw [schI, schI, hgetD_set ht, List.set_set, beI_succ h]
theorem schI_zero {W : List Int} (C : List Int) {t : Nat} (h : W[t]? = some 0) : W = schI W C t 0 := by
  rw [schI, List.take_zero]
  show W = W.set t 0
  apply List.ext_getElem?
  intro i
  rw [List.getElem?_set]
  split
  · subst i; rw [h]; have := (List.getElem?_eq_some_iff.1 h).1; simp [this]
  · rfl
theorem schW_zero (b : List Int) : ∀ t k, t ≤ k → k < 64 → (schW b t)[k]? = some 0
  | 0, k, _, h => by rw [schW, List.getElem?_replicate]; simp [h]
  | t + 1, k, h1, h2 => by rw [schW, List.getElem?_set, if_neg (by omega)]; exact schW_zero b t k (by omega) h2

set_option maxRecDepth 10000 in
set_option maxHeartbeats 2000000 in
theorem pw_schedule (b : List Int) (hb : b.length = 64) : PCalls Tryd.prog 66 [pbytes b] (· = .agg ((schW b 64).map pu32)) := by
  refine pcalls_of_pw typeTab_ok Tryd.func66 rfl (by kernel_rfl) (by exact lw) (by simp [pbytes, PV.ownB]) (Nat.le_of_ble_eq_true rfl) ?_
  refine wk ?_
  refine PW.loop (fun t : Nat => (((((bot.setb 0 (List.replicate 64 (pu32 0))).put 2 (.ptr 0 0)).setb 1000 ((schW b t).map pu32)).put 3 (.ptr 1000 0)).put 0 (pbytes b)).put 11 (pint t)) (fun t => t ≤ 64) (fun t => 64 - t) 0 (by omega) ?_ ?_
  · exact sb
  · intro t ht
    have hl := schW_len b t
    by_cases h64 : t < 64
    · by_cases h16 : t < 16
      · obtain ⟨C, hC⟩ : ∃ C, C = (b.drop (4 * t)).take 4 := ⟨_, rfl⟩
        have hCl : C.length = 4 := by rw [hC, List.length_take, List.length_drop]; omega
        refine wk ?_
        rw [show List.take ((4 * (t : Int) + 4).toNat - (4 * (t : Int)).toNat) (List.drop (4 * (t : Int)).toNat b) = C by
          rw [hC]; congr 1 <;> omega]
        have h0 : (schI (schW b t) C t 0).map pu32 = (schW b t).map pu32 := by rw [← schI_zero C (schW_zero b t t (Nat.le_refl _) h64)]
        refine PW.loop (fun j : Nat => ((((((((bot.setb 0 (List.replicate 64 (pu32 0))).put 2 (.ptr 0 0)).setb 1000 ((schI (schW b t) C t j).map pu32)).put 3 (.ptr 1000 0)).put 0 (pbytes b)).put 11 (pint t)).put 4 (pint t)).put 22 (pbytes C)).put 23 (pint C.length) |>.put 24 (pint j)) (fun j => j ≤ 4) (fun j => 4 - j) 0 (by omega) ?_ ?_
        · exact sb
        · intro j hj
          have hl2 : (schI (schW b t) C t j).length = 64 := by rw [schI, List.length_set, hl]
          by_cases h4 : j < 4
          · have hS : (schI (schW b t) C t (j + 1)).map pu32 = ((schI (schW b t) C t j).set t (orU (shlU ((schI (schW b t) C t j).getD t default) 8) (IntKind.u32.wrap (C.getD j default)))).map pu32 := by rw [schI_succ (by omega) (by omega)]
            refine wk ?_
            refine loopP (j + 1) (by omega) (by omega) ?_
            exact sb
          · have e : j = 4 := by omega
            subst e
            have hS : (schW b (t + 1)).map pu32 = (schI (schW b t) C t 4).map pu32 := by
              rw [schW, if_pos h16, schI, ← hC, List.take_of_length_le (by omega)]
            generalize schI (schW b t) C t 4 = W4 at *
            refine wk ?_
            refine loopP (t + 1) (by omega) (by omega) ?_
            exact sb
      · have r1 := pw_rotl ((schW b t).getD ((t : Int) - 15).toNat default) 7 (by simp)
        have r2 := pw_rotl ((schW b t).getD ((t : Int) - 15).toNat default) 18 (by simp)
        have r3 := pw_rotl ((schW b t).getD ((t : Int) - 2).toNat default) 17 (by simp)
        have r4 := pw_rotl ((schW b t).getD ((t : Int) - 2).toNat default) 19 (by simp)
        have hS : (schW b (t + 1)).map pu32 = ((schW b t).set (t : Int).toNat (addU (addU (addU ((schW b t).getD ((t : Int) - 16).toNat default) (sigI ((schW b t).getD ((t : Int) - 15).toNat default) 7 18 3)) ((schW b t).getD ((t : Int) - 7).toNat default)) (sigI ((schW b t).getD ((t : Int) - 2).toNat default) 17 19 10))).map pu32 := by
          rw [schW, if_neg h16, schV, show ((t : Int) - 16).toNat = t - 16 by omega, show ((t : Int) - 15).toNat = t - 15 by omega, show ((t : Int) - 7).toNat = t - 7 by omega, show ((t : Int) - 2).toNat = t - 2 by omega]; rfl
        refine wk ?_
        refine loopP (t + 1) (by omega) (by omega) ?_
        exact sb
    · have e : t = 64 := by omega
      subst e
      generalize schW b 64 = W at *
      refine wk ?_
      exact ⟨_, presult1 (pres_cell rfl rfl rfl (len_map hl) (bare_map (fun _ => rfl) _)), by exact lw, rfl⟩
end Go.Proofs.YtilcpcpmkklobaaDoor

/- The hash: one block. -/
namespace Go.Proofs.YtilcpcpmkklobaaDoor
set_option linter.unusedSimpArgs false
set_option linter.unusedVariables false
set_option linter.unnecessarySimpa false
open Go.RowKit

structure H8 where
  (a b c d e f g h : Int)
def pH (s : H8) : List PV := [pu32 s.a, pu32 s.b, pu32 s.c, pu32 s.d, pu32 s.e, pu32 s.f, pu32 s.g, pu32 s.h]
theorem low_pH (s : H8) : ∀ c ∈ pH s, Low c := by intro c hc; simp [pH] at hc; rcases hc with rfl | rfl | rfl | rfl | rfl | rfl | rfl | rfl <;> exact .val _
def rndX (v : H8) (k w : Int) : Int := addU (addU (addU (addU v.h (mixI v.e 6 11 25)) (xorU (andU v.e v.f) (andU (notU v.e) v.g))) k) w
def rndY (v : H8) : Int := addU (mixI v.a 2 13 22) (xorU (xorU (andU v.a v.b) (andU v.a v.c)) (andU v.b v.c))
def rnd (v : H8) (k w : Int) : H8 := ⟨addU (rndX v k w) (rndY v), v.a, v.b, v.c, addU v.d (rndX v k w), v.e, v.f, v.g⟩
def rnds (ks ws : List Int) (v : H8) : Nat → H8
  | 0 => v
  | t + 1 => rnd (rnds ks ws v t) (ks.getD t default) (ws.getD t default)
def addH (s v : H8) : H8 := ⟨addU s.a v.a, addU s.b v.b, addU s.c v.c, addU s.d v.d, addU s.e v.e, addU s.f v.f, addU s.g v.g, addU s.h v.h⟩
def cmpH (ks : List Int) (s : H8) (b : List Int) : H8 := addH s (rnds ks (schW b 64) s 64)

set_option maxRecDepth 10000 in
set_option maxHeartbeats 2000000 in
theorem pw_compress (s : H8) (b : List Int) (hb : b.length = 64) : PCalls Tryd.prog 53 [.agg (pH s), pbytes b] (· = .agg (pH (cmpH glob0 s b))) := by
  refine pcalls_of_pw typeTab_ok Tryd.func53 rfl (by kernel_rfl) (by intro p hp; simp at hp; rcases hp with rfl | rfl; exact .agg _ (low_pH s); exact lw) (by simp [pbytes, PV.ownB]) (Nat.le_of_ble_eq_true rfl) ?_
  have hs := pw_schedule b hb
  have hg : glob0.length = 64 := rfl
  have hwl := schW_len b 64
  obtain ⟨W, hW⟩ : ∃ W, W = schW b 64 := ⟨_, rfl⟩
  rw [← hW] at hs hwl
  rw [show cmpH glob0 s b = addH s (rnds glob0 W s 64) by rw [cmpH, hW]]
  obtain ⟨G, hG⟩ : ∃ G, G = glob0 := ⟨_, rfl⟩
  refine wk ?_
  refine PW.loop (fun t : Nat => (((((((((((bot.setb 0 (pH s)).put 2 (.ptr 0 0)).setb 1 (List.replicate 8 (pu32 0))).put 4 (.ptr 1 0)).setb 1002 (W.map pu32)).put 5 (.ptr 1002 0)).setb 2006 [pu32 (rnds glob0 W s t).a, pu32 (rnds glob0 W s t).b, pu32 (rnds glob0 W s t).c, pu32 (rnds glob0 W s t).d]).setb 2007 [pu32 (rnds glob0 W s t).e, pu32 (rnds glob0 W s t).f, pu32 (rnds glob0 W s t).g, pu32 (rnds glob0 W s t).h]).put 6 (.ptr 2006 0)).put 7 (.ptr 2007 0)).put 21 (.agg (glob0.map pu32))).put 22 (pint t)) (fun t => t ≤ 64) (fun t => 64 - t) 0 (by omega) ?_ ?_
  · exact sb
  · intro t ht
    by_cases h64 : t < 64
    · obtain ⟨v, hv⟩ : ∃ v, v = rnds glob0 W s t := ⟨_, rfl⟩
      have hn : rnds glob0 W s (t + 1) = rnd v (glob0.getD t default) (W.getD t default) := by rw [rnds, hv]
      rw [← hv]
      have m1 := pw_mixA v.e
      have m2 := pw_mixB v.a
      refine wk ?_
      refine loopP (t + 1) (by omega) (by omega) ?_
      simp only [hn]
      exact sb
    · have e : t = 64 := by omega
      subst e
      generalize rnds glob0 W s 64 = v at *
      refine wk ?_
      refine PW.unroll ?_
      refine wk ?_
      refine loopU ?_
      refine wk ?_
      refine loopU ?_
      refine wk ?_
      refine loopU ?_
      refine wk ?_
      refine loopU ?_
      refine wk ?_
      refine ⟨_, presult1 (pres_cell rfl rfl rfl rfl rfl), .agg _ ?_, ?_⟩
      · exact low_pH (addH s v)
      · rfl
end Go.Proofs.YtilcpcpmkklobaaDoor

/- Plain lists: what the functions of the packages bits and antiquaryref11 compute, and lemmas on it. No program in sight. -/
namespace Go.Proofs.YtilcpcpmkklobaaDoor
set_option linter.unusedSimpArgs false
set_option linter.unusedVariables false
set_option linter.unnecessarySimpa false

def hasL : List Int → Int → Bool
  | a :: b :: r, x => (decide (a ≤ x) && decide (x < b)) || hasL r x
  | _, _ => false

theorem hasL_short (l : List Int) (x : Int) (h : l.length ≤ 1) : hasL l x = false := by
  match l with
  | [] => rfl
  | [_] => rfl
  | _ :: _ :: _ => simp at h

theorem drop_two {α : Type} (zs : List α) (k : Nat) (a b : α) (ha : zs[k]? = some a) (hb : zs[k+1]? = some b) : zs.drop k = a :: b :: zs.drop (k+2) := by
  obtain ⟨hk, rfl⟩ := List.getElem?_eq_some_iff.1 hb
  rw [List.drop_eq_getElem_cons (by omega), List.drop_eq_getElem_cons (by omega)]
  obtain ⟨hk', rfl⟩ := List.getElem?_eq_some_iff.1 ha
  rfl

theorem drop_one {α : Type} (zs : List α) (k : Nat) (a : α) (ha : zs[k]? = some a) : zs.drop k = a :: zs.drop (k+1) := by
  obtain ⟨hk, rfl⟩ := List.getElem?_eq_some_iff.1 ha
  rw [List.drop_eq_getElem_cons (by omega)]

theorem take_one {α : Type} (zs : List α) (k : Nat) (a : α) (ha : zs[k]? = some a) : zs.take (k+1) = zs.take k ++ [a] := by
  rw [List.take_add_one, ha]; rfl

theorem hasL_drop (zs : List Int) (k : Nat) (a b x : Int) (ha : zs[k]? = some a) (hb : zs[k+1]? = some b) :
    hasL (zs.drop k) x = ((decide (a ≤ x) && decide (x < b)) || hasL (zs.drop (k+2)) x) := by
  rw [drop_two zs k a b ha hb, hasL]

/-- Each element is greater than the one before it (the first: than lo) and at most 4096. -/
def ascB (lo : Int) : List Int → Bool
  | [] => true
  | z :: r => decide (lo < z) && decide (z ≤ 4096) && ascB z r

def validB (zs : List Int) : Bool := ascB (-1) zs && decide (zs.length % 2 = 0)

def prevAt (zs : List Int) (k : Nat) : Int := if k = 0 then -1 else zs.getD (k - 1) 0

theorem ascB_drop (zs : List Int) (k : Nat) (a lo : Int) (ha : zs[k]? = some a) : ascB lo (zs.drop k) = (decide (lo < a) && decide (a ≤ 4096) && ascB a (zs.drop (k+1))) := by
  rw [drop_one zs k a ha, ascB]

theorem prevAt_succ (zs : List Int) (k : Nat) (a : Int) (ha : zs[k]? = some a) : prevAt zs (k+1) = a := by
  simp [prevAt, ha]

theorem ascB_end (zs : List Int) (k : Nat) (lo : Int) (h : zs.length ≤ k) : ascB lo (zs.drop k) = true := by
  rw [List.drop_eq_nil_of_le h, ascB]

/-- What is known of a valid set. -/
structure Good (zs : List Int) : Prop where
  even : zs.length % 2 = 0
  len : zs.length ≤ 4097
  rng : ∀ (k : Nat) (y : Int), zs[k]? = some y → 0 ≤ y ∧ y ≤ 4096
  asc : ∀ (k : Nat) (y z : Int), zs[k]? = some y → zs[k+1]? = some z → y < z

theorem ascB_rng : ∀ (zs : List Int) (lo : Int), ascB lo zs = true → ∀ (k : Nat) (y : Int), zs[k]? = some y → lo < y ∧ y ≤ 4096
  | [], _, _, k, y, h => by simp at h
  | z :: r, lo, h, k, y, hk => by
    simp only [ascB, Bool.and_eq_true, decide_eq_true_eq] at h
    cases k with
    | zero => simp at hk; subst hk; exact h.1
    | succ k => have := ascB_rng r z h.2 k y (by simpa using hk); omega

theorem ascB_asc : ∀ (zs : List Int) (lo : Int), ascB lo zs = true → ∀ (k : Nat) (y z : Int), zs[k]? = some y → zs[k+1]? = some z → y < z
  | [], _, _, k, y, z, h, _ => by simp at h
  | x :: r, lo, h, k, y, z, hk, hk1 => by
    simp only [ascB, Bool.and_eq_true, decide_eq_true_eq] at h
    cases k with
    | zero => simp at hk; subst hk; exact (ascB_rng r x h.2 0 z (by simpa using hk1)).1
    | succ k => exact ascB_asc r x h.2 k y z (by simpa using hk) (by simpa using hk1)

theorem ascB_len : ∀ (zs : List Int) (lo : Int), ascB lo zs = true → lo ≤ 4096 → (zs.length : Int) ≤ 4096 - lo
  | [], lo, _, h => by simp; omega
  | z :: r, lo, h, _ => by
    simp only [ascB, Bool.and_eq_true, decide_eq_true_eq] at h
    have := ascB_len r z h.2 h.1.2
    simp; omega

theorem good_of_valid {zs : List Int} (h : validB zs = true) : Good zs := by
  simp only [validB, Bool.and_eq_true, decide_eq_true_eq] at h
  refine ⟨h.2, ?_, fun k y hk => ?_, ascB_asc zs (-1) h.1⟩
  · have := ascB_len zs (-1) h.1 (by omega); omega
  · have := ascB_rng zs (-1) h.1 k y hk; omega

def rankL : List Int → Int → Int
  | a :: b :: r, s => if a < s then (min b s - a) + rankL r s else 0
  | _, _ => 0

theorem rankL_drop (zs : List Int) (k : Nat) (a b s : Int) (ha : zs[k]? = some a) (hb : zs[k+1]? = some b) :
    rankL (zs.drop k) s = if a < s then (min b s - a) + rankL (zs.drop (k+2)) s else 0 := by
  rw [drop_two zs k a b ha hb, rankL]

theorem rankL_short (l : List Int) (x : Int) (h : l.length ≤ 1) : rankL l x = 0 := by
  match l with
  | [] => rfl
  | [_] => rfl
  | _ :: _ :: _ => simp at h

def selL : List Int → Int → Int
  | a :: b :: r, n => if b - a ≤ n then selL r (n - (b - a)) else a + n
  | _, _ => -1

theorem selL_drop (zs : List Int) (k : Nat) (a b s : Int) (ha : zs[k]? = some a) (hb : zs[k+1]? = some b) :
    selL (zs.drop k) s = if b - a ≤ s then selL (zs.drop (k+2)) (s - (b - a)) else a + s := by
  rw [drop_two zs k a b ha hb, selL]

theorem selL_short (l : List Int) (x : Int) (h : l.length ≤ 1) : selL l x = -1 := by
  match l with
  | [] => rfl
  | [_] => rfl
  | _ :: _ :: _ => simp at h

def selB (zs : List Int) (s : Int) : Int := if s < 0 then -1 else selL zs s

def sameFrom (a b : List Int) (k : Nat) : Bool := a.drop k == b.drop k

theorem sameFrom_step (a b : List Int) (k : Nat) (x y : Int) (ha : a[k]? = some x) (hb : b[k]? = some y) : sameFrom a b k = ((x == y) && sameFrom a b (k+1)) := by
  unfold sameFrom
  rw [drop_one a k x ha, drop_one b k y hb]
  rfl


/-- What bits.merge does from here on; pa, pb, po: whether an odd number of borders of a, of b, of the result has been passed. -/
def mergeF (r : Bool → Bool → Bool) : Nat → List Int → List Int → Bool → Bool → Bool → List Int
  | 0, _, _, _, _, _ => []
  | _ + 1, [], [], _, _, _ => []
  | n + 1, a :: az, [], pa, pb, po => if r (!pa) pb != po then a :: mergeF r n az [] (!pa) pb (!po) else mergeF r n az [] (!pa) pb po
  | n + 1, [], b :: bs, pa, pb, po => if r pa (!pb) != po then b :: mergeF r n [] bs pa (!pb) (!po) else mergeF r n [] bs pa (!pb) po
  | n + 1, a :: az, b :: bs, pa, pb, po =>
    if a < b then (if r (!pa) pb != po then a :: mergeF r n az (b :: bs) (!pa) pb (!po) else mergeF r n az (b :: bs) (!pa) pb po)
    else if b < a then (if r pa (!pb) != po then b :: mergeF r n (a :: az) bs pa (!pb) (!po) else mergeF r n (a :: az) bs pa (!pb) po)
    else (if r (!pa) (!pb) != po then a :: mergeF r n az bs (!pa) (!pb) (!po) else mergeF r n az bs (!pa) (!pb) po)

def mergeL (r : Bool → Bool → Bool) (az bs : List Int) : List Int := mergeF r (az.length + bs.length) az bs false false false

theorem mergeF_nil (r : Bool → Bool → Bool) (n : Nat) (pa pb po : Bool) : mergeF r n [] [] pa pb po = [] := by cases n <;> rfl

theorem mergeF_left (r : Bool → Bool → Bool) (n : Nat) (a : Int) (az : List Int) (pa pb po : Bool) :
    mergeF r (n+1) (a :: az) [] pa pb po = if r (!pa) pb != po then a :: mergeF r n az [] (!pa) pb (!po) else mergeF r n az [] (!pa) pb po := rfl
theorem mergeF_right (r : Bool → Bool → Bool) (n : Nat) (b : Int) (bs : List Int) (pa pb po : Bool) :
    mergeF r (n+1) [] (b :: bs) pa pb po = if r pa (!pb) != po then b :: mergeF r n [] bs pa (!pb) (!po) else mergeF r n [] bs pa (!pb) po := rfl

theorem mergeF_more (r : Bool → Bool → Bool) : ∀ (n : Nat) (az bs : List Int) (pa pb po : Bool), az.length + bs.length ≤ n → mergeF r (n+1) az bs pa pb po = mergeF r n az bs pa pb po
  | 0, az, bs, pa, pb, po, h => by
    have h1 : az = [] := List.eq_nil_of_length_eq_zero (by omega)
    have h2 : bs = [] := List.eq_nil_of_length_eq_zero (by omega)
    subst h1; subst h2; rfl
  | n + 1, az, bs, pa, pb, po, h => by
    match az, bs with
    | [], [] => rfl
    | a :: az, [] =>
      have := fun po => mergeF_more r n az [] (!pa) pb po (by simp at h ⊢; omega)
      rw [mergeF_left, mergeF_left, this, this]
    | [], b :: bs =>
      have := fun po => mergeF_more r n [] bs pa (!pb) po (by simp at h ⊢; omega)
      rw [mergeF_right, mergeF_right, this, this]
    | a :: az, b :: bs =>
      have h1 := fun po => mergeF_more r n az (b :: bs) (!pa) pb po (by simp at h ⊢; omega)
      have h2 := fun po => mergeF_more r n (a :: az) bs pa (!pb) po (by simp at h ⊢; omega)
      have h3 := fun po => mergeF_more r n az bs (!pa) (!pb) po (by simp at h ⊢; omega)
      simp only [mergeF.eq_5, h1, h2, h3]

theorem mergeF_len (r : Bool → Bool → Bool) : ∀ (n : Nat) (az bs : List Int) (pa pb po : Bool), (mergeF r n az bs pa pb po).length ≤ n
  | 0, _, _, _, _, _ => by simp [mergeF]
  | n + 1, az, bs, pa, pb, po => by
    match az, bs with
    | [], [] => simp [mergeF]
    | a :: az, [] =>
      have := fun po => mergeF_len r n az [] (!pa) pb po
      rw [mergeF_left]; split <;> simp <;> grind
    | [], b :: bs =>
      have := fun po => mergeF_len r n [] bs pa (!pb) po
      rw [mergeF_right]; split <;> simp <;> grind
    | a :: az, b :: bs =>
      have h1 := fun po => mergeF_len r n az (b :: bs) (!pa) pb po
      have h2 := fun po => mergeF_len r n (a :: az) bs pa (!pb) po
      have h3 := fun po => mergeF_len r n az bs (!pa) (!pb) po
      simp only [mergeF.eq_5]
      repeat' split
      all_goals simp
      all_goals grind

/-- The state of the loop in merge: i and k borders have been passed, out has been laid down. -/
def MergeAt (r : Bool → Bool → Bool) (az bs : List Int) (i k : Nat) (out : List Int) : Prop :=
  mergeL r az bs = out ++ mergeF r (az.length - i + (bs.length - k)) (az.drop i) (bs.drop k) (decide (i % 2 = 1)) (decide (k % 2 = 1)) (decide (out.length % 2 = 1))

theorem MergeAt.start (r : Bool → Bool → Bool) (az bs : List Int) : MergeAt r az bs 0 0 [] := by simp [MergeAt, mergeL]

theorem MergeAt.done {r : Bool → Bool → Bool} {az bs : List Int} {i k : Nat} {out : List Int} (h : MergeAt r az bs i k out) (hi : az.length ≤ i) (hk : bs.length ≤ k) : mergeL r az bs = out := by
  rw [MergeAt, List.drop_eq_nil_of_le hi, List.drop_eq_nil_of_le hk, mergeF_nil] at h
  simpa using h

theorem odd_succ (i : Nat) : decide ((i+1) % 2 = 1) = !decide (i % 2 = 1) := by
  by_cases h : i % 2 = 1
  · have : (i+1) % 2 = 0 := by omega
    simp [h, this]
  · have : (i+1) % 2 = 1 := by omega
    simp [h, this]

/-- What one round adds. -/
def addIf (c : Bool) (out : List Int) (x : Int) : List Int := if c then out ++ [x] else out

theorem MergeAt.left {r : Bool → Bool → Bool} {az bs : List Int} {i k : Nat} {out : List Int} (h : MergeAt r az bs i k out) (x : Int) (hx : az[i]? = some x) (hk : bs.length ≤ k ∨ ∃ y, bs[k]? = some y ∧ x < y) (c : Bool)
    (hc : c = (r (decide ((i+1) % 2 = 1)) (decide (k % 2 = 1)) != decide (out.length % 2 = 1))) : MergeAt r az bs (i+1) k (addIf c out x) := by
  obtain ⟨hi, _⟩ := List.getElem?_eq_some_iff.1 hx
  unfold MergeAt at h ⊢
  rw [h]
  have e1 : az.length - i + (bs.length - k) = (az.length - (i+1) + (bs.length - k)) + 1 := by omega
  rw [e1, drop_one az i x hx]
  rw [odd_succ] at hc
  have step : mergeF r (az.length - (i + 1) + (bs.length - k) + 1) (x :: az.drop (i+1)) (bs.drop k) (decide (i % 2 = 1)) (decide (k % 2 = 1)) (decide (out.length % 2 = 1)) =
      if c then x :: mergeF r (az.length - (i + 1) + (bs.length - k)) (az.drop (i+1)) (bs.drop k) (!decide (i % 2 = 1)) (decide (k % 2 = 1)) (!decide (out.length % 2 = 1))
      else mergeF r (az.length - (i + 1) + (bs.length - k)) (az.drop (i+1)) (bs.drop k) (!decide (i % 2 = 1)) (decide (k % 2 = 1)) (decide (out.length % 2 = 1)) := by
    rcases hk with hk | ⟨y, hy, hxy⟩
    · rw [List.drop_eq_nil_of_le hk, mergeF_left, hc]
    · rw [drop_one bs k y hy, mergeF.eq_5, if_pos hxy, hc]
  rw [step, odd_succ]
  cases c
  · simp [addIf]
  · simp only [addIf, if_true, List.length_append, List.length_cons, List.length_nil, Nat.zero_add, odd_succ, List.append_assoc, List.cons_append, List.nil_append]

theorem MergeAt.right {r : Bool → Bool → Bool} {az bs : List Int} {i k : Nat} {out : List Int} (h : MergeAt r az bs i k out) (x : Int) (hx : bs[k]? = some x) (hk : az.length ≤ i ∨ ∃ y, az[i]? = some y ∧ x < y) (c : Bool)
    (hc : c = (r (decide (i % 2 = 1)) (decide ((k+1) % 2 = 1)) != decide (out.length % 2 = 1))) : MergeAt r az bs i (k+1) (addIf c out x) := by
  obtain ⟨hi, _⟩ := List.getElem?_eq_some_iff.1 hx
  unfold MergeAt at h ⊢
  rw [h]
  have e1 : az.length - i + (bs.length - k) = (az.length - i + (bs.length - (k+1))) + 1 := by omega
  rw [e1, drop_one bs k x hx]
  rw [odd_succ] at hc
  have step : mergeF r (az.length - i + (bs.length - (k+1)) + 1) (az.drop i) (x :: bs.drop (k+1)) (decide (i % 2 = 1)) (decide (k % 2 = 1)) (decide (out.length % 2 = 1)) =
      if c then x :: mergeF r (az.length - i + (bs.length - (k+1))) (az.drop i) (bs.drop (k+1)) (decide (i % 2 = 1)) (!decide (k % 2 = 1)) (!decide (out.length % 2 = 1))
      else mergeF r (az.length - i + (bs.length - (k+1))) (az.drop i) (bs.drop (k+1)) (decide (i % 2 = 1)) (!decide (k % 2 = 1)) (decide (out.length % 2 = 1)) := by
    rcases hk with hk | ⟨y, hy, hxy⟩
    · rw [List.drop_eq_nil_of_le hk, mergeF_right, hc]
    · rw [drop_one az i y hy, mergeF.eq_5, if_neg (by omega), if_pos hxy, hc]
  rw [step, odd_succ]
  cases c
  · simp [addIf]
  · simp only [addIf, if_true, List.length_append, List.length_cons, List.length_nil, Nat.zero_add, odd_succ, List.append_assoc, List.cons_append, List.nil_append]

theorem MergeAt.both {r : Bool → Bool → Bool} {az bs : List Int} {i k : Nat} {out : List Int} (h : MergeAt r az bs i k out) (x : Int) (hx : az[i]? = some x) (hy : bs[k]? = some x) (c : Bool)
    (hc : c = (r (decide ((i+1) % 2 = 1)) (decide ((k+1) % 2 = 1)) != decide (out.length % 2 = 1))) : MergeAt r az bs (i+1) (k+1) (addIf c out x) := by
  obtain ⟨hi, _⟩ := List.getElem?_eq_some_iff.1 hx
  obtain ⟨hj, _⟩ := List.getElem?_eq_some_iff.1 hy
  unfold MergeAt at h ⊢
  rw [h]
  have e1 : az.length - i + (bs.length - k) = (az.length - (i+1) + (bs.length - (k+1)) + 1) + 1 := by omega
  rw [e1, drop_one bs k x hy, drop_one az i x hx]
  rw [odd_succ, odd_succ] at hc
  have m := fun po => mergeF_more r (az.length - (i+1) + (bs.length - (k+1))) (az.drop (i+1)) (bs.drop (k+1)) (!decide (i % 2 = 1)) (!decide (k % 2 = 1)) po (by simp)
  rw [mergeF.eq_5, if_neg (by omega), if_neg (by omega), ← hc, m, m, odd_succ, odd_succ]
  cases c
  · simp [addIf]
  · simp only [addIf, if_true, List.length_append, List.length_cons, List.length_nil, Nat.zero_add, odd_succ, List.append_assoc, List.cons_append, List.nil_append]

theorem odd_int (n : Nat) : (((n : Int) % 2) == 1) = decide (n % 2 = 1) := by
  rw [Bool.eq_iff_iff]; simp only [beq_iff_eq, decide_eq_true_eq]; omega
theorem odd_int1 (n : Nat) : ((((n : Int) + 1) % 2) == 1) = decide ((n + 1) % 2 = 1) := by
  rw [Bool.eq_iff_iff]; simp only [beq_iff_eq, decide_eq_true_eq]; omega


/-- The table of a rule at 0 to 4095. -/
def tab (f : Int → Bool) : List Bool := (List.range 4096).map (fun j => f (j : Nat))

theorem tab_length (f : Int → Bool) : (tab f).length = 4096 := by simp [tab]
theorem tab_get (f : Int → Bool) (x : Nat) (h : x < 4096) : (tab f)[x]? = some (f x) := by simp [tab, h]
theorem tab_set (f : Int → Bool) (x : Nat) (b : Bool) : (tab f).set x b = tab (fun j => if j = x then b else f j) := by
  apply List.ext_getElem
  · simp [tab]
  · intro k h1 h2
    simp only [tab, List.getElem_set, List.getElem_map, List.getElem_range]
    by_cases h : x = k
    · subst h; simp
    · rw [if_neg h, if_neg (by omega)]
theorem tab_congr {f g : Int → Bool} (h : ∀ j : Int, 0 ≤ j → j < 4096 → f j = g j) : tab f = tab g := by
  apply List.ext_getElem
  · simp [tab]
  · intro k h1 h2
    simp only [tab, List.getElem_map, List.getElem_range]
    simp [tab] at h1
    exact h k (by omega) (by omega)
theorem tab_false : List.replicate 4096 false = tab (fun _ => false) := by
  apply List.ext_getElem
  · rw [List.length_replicate, tab_length]
  · intro k h1 h2
    rw [List.getElem_replicate]
    simp only [tab, List.getElem_map]

theorem hasL_snoc (a b x : Int) : ∀ (l : List Int), l.length % 2 = 0 → hasL (l ++ [a, b]) x = (hasL l x || (decide (a ≤ x) && decide (x < b)))
  | [], _ => by simp [hasL]
  | [_], h => by simp at h
  | c :: d :: r, h => by
    have := hasL_snoc a b x r (by simp at h; omega)
    simp only [List.cons_append, hasL, this, Bool.or_assoc]

theorem take_two {α : Type} (zs : List α) (k : Nat) (a b : α) (ha : zs[k]? = some a) (hb : zs[k+1]? = some b) : zs.take (k+2) = zs.take k ++ [a, b] := by
  rw [take_one zs (k+1) b hb, take_one zs k a ha]; simp

theorem hasL_take (zs : List Int) (k : Nat) (a b x : Int) (ha : zs[k]? = some a) (hb : zs[k+1]? = some b) (hk : k % 2 = 0) :
    hasL (zs.take (k+2)) x = (hasL (zs.take k) x || (decide (a ≤ x) && decide (x < b))) := by
  rw [take_two zs k a b ha hb]
  refine hasL_snoc a b x _ ?_
  obtain ⟨h, _⟩ := List.getElem?_eq_some_iff.1 ha
  rw [List.length_take, Nat.min_eq_left (by omega)]; exact hk

/-- What antiquaryref11.Bits does. -/
def bitsGo : List Bool → Int → Bool → List Int
  | [], x, was => if was then [x] else []
  | c :: r, x, was => if c = was then bitsGo r (x + 1) was else x :: bitsGo r (x + 1) c
def bitsL (l : List Bool) : List Int := bitsGo l 0 false

theorem bitsGo_drop (l : List Bool) (k : Nat) (c : Bool) (x : Int) (was : Bool) (h : l[k]? = some c) : bitsGo (l.drop k) x was = if c = was then bitsGo (l.drop (k+1)) (x + 1) was else x :: bitsGo (l.drop (k+1)) (x + 1) c := by
  rw [drop_one l k c h, bitsGo]

/-- The slots of a set, one after the other. -/
def upto (a : Int) : Nat → List Int
  | 0 => []
  | n + 1 => a :: upto (a + 1) n
def slotsL : List Int → List Int
  | a :: b :: r => upto a (b - a).toNat ++ slotsL r
  | _ => []

theorem upto_snoc (a : Int) : ∀ n, upto a (n + 1) = upto a n ++ [a + n]
  | 0 => by simp [upto]
  | n + 1 => by
    have := upto_snoc (a + 1) n
    rw [upto, this, upto]
    simp; omega
theorem upto_length (a : Int) : ∀ n, (upto a n).length = n
  | 0 => rfl
  | n + 1 => by simp [upto, upto_length (a+1) n]

theorem slotsL_snoc (a b : Int) : ∀ (l : List Int), l.length % 2 = 0 → slotsL (l ++ [a, b]) = slotsL l ++ upto a (b - a).toNat
  | [], _ => by simp [slotsL]
  | [_], h => by simp at h
  | c :: d :: r, h => by
    have := slotsL_snoc a b r (by simp at h; omega)
    simp only [List.cons_append, slotsL, this, List.append_assoc]
theorem slotsL_take (zs : List Int) (k : Nat) (a b : Int) (ha : zs[k]? = some a) (hb : zs[k+1]? = some b) (hk : k % 2 = 0) :
    slotsL (zs.take (k+2)) = slotsL (zs.take k) ++ upto a (b - a).toNat := by
  rw [take_two zs k a b ha hb]
  refine slotsL_snoc a b _ ?_
  obtain ⟨h, _⟩ := List.getElem?_eq_some_iff.1 ha
  rw [List.length_take, Nat.min_eq_left (by omega)]; exact hk

end Go.Proofs.YtilcpcpmkklobaaDoor

/- Plain lists, second part. -/
namespace Go.Proofs.YtilcpcpmkklobaaDoor
set_option linter.unusedSimpArgs false
set_option linter.unusedVariables false
set_option linter.unnecessarySimpa false

def inR (x : Int) : Bool := decide (0 ≤ x) && decide (x < 4096)
def ofB (l : List Int) : List Int := if l.all inR then bitsL (tab (fun j => l.contains j)) else []
def ofE (l : List Int) : Int := if l.all inR then 0 else 1

theorem all_take (l : List Int) (k : Nat) (y : Int) (h : l[k]? = some y) : (l.take (k+1)).all inR = ((l.take k).all inR && inR y) := by
  rw [take_one l k y h]; simp
theorem not_all (l : List Int) (k : Nat) (y : Int) (h : l[k]? = some y) (hy : inR y = false) : l.all inR = false := by
  rw [List.all_eq_false]
  exact ⟨y, List.mem_of_getElem? h, by simp [hy]⟩
theorem contains_take (l : List Int) (k : Nat) (y j : Int) (h : l[k]? = some y) : (l.take (k+1)).contains j = ((l.take k).contains j || decide (j = y)) := by
  rw [take_one l k y h]; simp

/-- How many of the first elements are less than s. -/
def countLess (l : List Int) (s : Int) : Int := (l.filter (fun x => decide (x < s))).length
theorem countLess_take (l : List Int) (k : Nat) (y s : Int) (h : l[k]? = some y) : countLess (l.take (k+1)) s = countLess (l.take k) s + if y < s then 1 else 0 := by
  rw [countLess, take_one l k y h, List.filter_append, countLess]
  by_cases g : y < s <;> simp [g]
theorem countLess_le (l : List Int) (s : Int) : 0 ≤ countLess l s ∧ countLess l s ≤ l.length := by
  unfold countLess; have := List.length_filter_le (fun x => decide (x < s)) l; omega

def selR (l : List Int) (n : Int) : Int := if n < 0 ∨ (l.length : Int) ≤ n then -1 else l.getD n.toNat 0

theorem asc_le_last : ∀ (zs : List Int) (lo : Int), ascB lo zs = true → ∀ y ∈ zs, lo < y ∧ y ≤ 4096
  | [], _, _, y, h => by simp at h
  | z :: r, lo, h, y, hy => by
    simp only [ascB, Bool.and_eq_true, decide_eq_true_eq] at h
    rcases List.mem_cons.1 hy with rfl | hy
    · exact h.1
    · have := asc_le_last r z h.2 y hy; omega

/-- The slots before the k-th border are at most as many as that border. -/
theorem slotsL_len (zs : List Int) (hg : Good zs) : ∀ k, k ≤ zs.length → k % 2 = 0 → (slotsL (zs.take k)).length ≤ prevAt zs k + 1 ∨ k = 0 := by
  intro k
  induction k using Nat.strongRecOn with
  | _ k ih =>
    intro hk hk2
    match k, hk2 with
    | 0, _ => exact .inr rfl
    | 1, h => omega
    | k + 2, hk2 =>
      left
      obtain ⟨y, ha⟩ : ∃ y, zs[k]? = some y := ⟨zs[k], by simp⟩
      obtain ⟨z, hb⟩ : ∃ y, zs[k+1]? = some y := ⟨zs[k+1], by simp⟩
      rw [slotsL_take zs k _ _ ha hb (by omega), List.length_append, upto_length, prevAt_succ zs (k+1) _ hb]
      have h1 := hg.asc k _ _ ha hb
      have h2 := hg.rng k _ ha
      rcases ih k (by omega) (by omega) (by omega) with h | h
      · by_cases h0 : k = 0
        · subst h0; simp [slotsL]; omega
        · have hc : zs[k-1]? = some zs[k-1] := by simp
          have h3 := hg.asc (k-1) _ y hc (by rw [show k - 1 + 1 = k by omega]; exact ha)
          have h4 : prevAt zs k = zs[k-1] := by rw [← prevAt_succ zs (k-1) _ hc, show k - 1 + 1 = k by omega]
          omega
      · subst h; simp [slotsL]; omega
theorem slotsL_le (zs : List Int) (hg : Good zs) (k : Nat) (hk : k ≤ zs.length) (hk2 : k % 2 = 0) : (slotsL (zs.take k)).length ≤ 4097 := by
  rcases slotsL_len zs hg k hk hk2 with h | h
  · by_cases h0 : k = 0
    · subst h0; simp [slotsL]
    · have hc : zs[k-1]? = some zs[k-1] := by simp
      have h4 : prevAt zs k = zs[k-1] := by rw [← prevAt_succ zs (k-1) _ hc, show k - 1 + 1 = k by omega]
      have := hg.rng (k-1) _ hc
      omega
  · subst h; simp [slotsL]

end Go.Proofs.YtilcpcpmkklobaaDoor

/- Plain: the differences of borders. -/
namespace Go.Proofs.YtilcpcpmkklobaaDoor
set_option linter.unusedSimpArgs false
set_option linter.unusedVariables false
set_option linter.unnecessarySimpa false

def diffL : List Int → Int → List Int
  | [], _ => []
  | z :: r, last => (z - last) :: diffL r z
def sumL : List Int → Int → List Int
  | [], _ => []
  | d :: r, last => (last + d) :: sumL r (last + d)

theorem diffL_length : ∀ (zs : List Int) (l : Int), (diffL zs l).length = zs.length
  | [], _ => rfl
  | z :: r, l => by simp [diffL, diffL_length r z]
theorem sumL_length : ∀ (zs : List Int) (l : Int), (sumL zs l).length = zs.length
  | [], _ => rfl
  | z :: r, l => by simp [sumL, sumL_length r _]
theorem sum_diff : ∀ (zs : List Int) (l : Int), sumL (diffL zs l) l = zs
  | [], _ => rfl
  | z :: r, l => by
    rw [diffL, sumL, show l + (z - l) = z by omega, sum_diff r z]
theorem diff_sum : ∀ (ds : List Int) (l : Int), diffL (sumL ds l) l = ds
  | [], _ => rfl
  | d :: r, l => by
    rw [sumL, diffL, diff_sum r (l + d), show l + d - l = d by omega]

theorem diffL_get : ∀ (zs : List Int) (l : Int) (k : Nat) (y z : Int), zs[k]? = some y → zs[k+1]? = some z → (diffL zs l)[k+1]? = some (z - y)
  | [], _, k, y, z, h, _ => by simp at h
  | x :: r, l, 0, y, z, h, h2 => by
    simp at h; subst h
    match r with
    | [] => simp at h2
    | u :: r => simp at h2; subst h2; simp [diffL]
  | x :: r, l, k + 1, y, z, h, h2 => by
    have := diffL_get r x k y z (by simpa using h) (by simpa using h2)
    simpa [diffL] using this
theorem diffL_get0 (zs : List Int) (z : Int) (h : zs[0]? = some z) (l : Int) : (diffL zs l)[0]? = some (z - l) := by
  match zs with
  | [] => simp at h
  | x :: r => simp at h; subst h; simp [diffL]

/-- What bits.Encode has in memory, from the m-th place on. -/
def encAt (zs : List Int) (m : Nat) : List Int := zs.take m ++ (diffL zs 0).drop m

theorem encAt_length (zs : List Int) (m : Nat) (h : m ≤ zs.length) : (encAt zs m).length = zs.length := by
  simp [encAt, diffL_length]; omega
theorem encAt_all (zs : List Int) : encAt zs zs.length = zs := by
  simp [encAt, diffL_length]
theorem encAt_one (zs : List Int) (m : Nat) (h : m ≤ 1) : encAt zs m = diffL zs 0 := by
  match m, zs with
  | 0, zs => simp [encAt]
  | 1, [] => rfl
  | 1, z :: r => simp [encAt, diffL]
theorem encAt_get (zs : List Int) (m j : Nat) (y : Int) (hj : j < m) (h : zs[j]? = some y) : (encAt zs m)[j]? = some y := by
  have hlt := (List.getElem?_eq_some_iff.1 h).1
  rw [encAt, List.getElem?_append_left (by simp; omega), List.getElem?_take, if_pos hj, h]
theorem encAt_set (zs : List Int) (m : Nat) (y z : Int) (h1 : zs[m]? = some y) (h2 : zs[m+1]? = some z) : (encAt zs (m+2)).set (m+1) (z - y) = encAt zs (m+1) := by
  have hlt := (List.getElem?_eq_some_iff.1 h2).1
  have hd := diffL_get zs 0 m y z h1 h2
  have hdl := (List.getElem?_eq_some_iff.1 hd).1
  rw [encAt, encAt, show m + 2 = (m + 1) + 1 by omega, List.take_add_one, h2, Option.toList, List.append_assoc]
  rw [List.set_append_right _ _ (by rw [List.length_take]; omega)]
  congr 1
  rw [List.length_take, Nat.min_eq_left (by omega), Nat.sub_self]
  rw [List.drop_eq_getElem_cons (i := m + 1) hdl]
  have e := (List.getElem?_eq_some_iff.1 hd).2
  simp [e]

theorem diffL_fit : ∀ (zs : List Int) (l : Int), (∀ z ∈ zs, 0 ≤ z ∧ z ≤ 4096) → 0 ≤ l → l ≤ 4096 → ∀ d ∈ diffL zs l, -4096 ≤ d ∧ d ≤ 4096
  | [], _, _, _, _, d, h => by simp [diffL] at h
  | z :: r, l, h, h0, h1, d, hd => by
    have hz := h z (by simp)
    rw [diffL] at hd
    rcases List.mem_cons.1 hd with rfl | hd
    · omega
    · exact diffL_fit r z (fun u hu => h u (by simp [hu])) hz.1 hz.2 d hd

/-- What Decode makes of numbers: a set, if it is one. -/
def stepB (d : Int) : Bool := decide (0 ≤ d) && decide (d ≤ 4096)
def decOk (ds : List Int) : Bool := ds.all stepB && validB (sumL ds 0)

theorem stepB_take (l : List Int) (k : Nat) (y : Int) (h : l[k]? = some y) : (l.take (k+1)).all stepB = ((l.take k).all stepB && stepB y) := by
  rw [take_one l k y h]; simp
theorem not_step (l : List Int) (k : Nat) (y : Int) (h : l[k]? = some y) (hy : stepB y = false) : l.all stepB = false := by
  rw [List.all_eq_false]
  exact ⟨y, List.mem_of_getElem? h, by simp [hy]⟩

/-- The last sum of the first k numbers. -/
def lastSum (ds : List Int) (k : Nat) : Int := ((sumL ds 0).take k).getLastD 0

theorem sumL_snoc (d : Int) : ∀ (ds : List Int) (l : Int), sumL (ds ++ [d]) l = sumL ds l ++ [(sumL ds l).getLastD l + d]
  | [], l => by simp [sumL]
  | e :: r, l => by
    have := sumL_snoc d r (l + e)
    rw [List.cons_append, sumL, this, sumL, List.cons_append, List.getLastD_cons]
theorem sumL_take : ∀ (ds : List Int) (l : Int) (k : Nat), (sumL ds l).take k = sumL (ds.take k) l
  | [], l, k => by simp [sumL]
  | e :: r, l, 0 => by simp [sumL]
  | e :: r, l, k + 1 => by simp [sumL, sumL_take r (l + e) k]
theorem sum_step (ds : List Int) (k : Nat) (d : Int) (h : ds[k]? = some d) : (sumL ds 0).take (k+1) = (sumL ds 0).take k ++ [lastSum ds k + d] ∧ lastSum ds (k+1) = lastSum ds k + d := by
  have e : (sumL ds 0).take (k+1) = (sumL ds 0).take k ++ [lastSum ds k + d] := by
    rw [sumL_take, take_one ds k d h, sumL_snoc, lastSum, sumL_take]
  refine ⟨e, ?_⟩
  rw [lastSum, e]; simp
theorem lastSum_bd (ds : List Int) : ∀ k, k ≤ ds.length → (ds.take k).all stepB = true → 0 ≤ lastSum ds k ∧ lastSum ds k ≤ 4096 * k
  | 0, _, _ => by simp [lastSum]
  | k + 1, hk, h => by
    obtain ⟨d, hd⟩ : ∃ d, ds[k]? = some d := ⟨ds[k], by simp⟩
    rw [stepB_take ds k d hd, Bool.and_eq_true] at h
    have ih := lastSum_bd ds k (by omega) h.1
    rw [(sum_step ds k d hd).2]
    have h2 := h.2
    simp only [stepB, Bool.and_eq_true, decide_eq_true_eq] at h2
    omega

end Go.Proofs.YtilcpcpmkklobaaDoor

/- Plain: the encoding of integers, as wire and antiquaryref01 have it. -/
namespace Go.Proofs.YtilcpcpmkklobaaDoor
set_option linter.unusedSimpArgs false
set_option linter.unusedVariables false
set_option linter.unnecessarySimpa false

def zig (n : Int) : Nat := if 0 ≤ n then (2 * n).toNat else (-2 * n - 1).toNat
def unzig (z : Int) : Int := if z % 2 = 0 then z / 2 else -1 - z / 2

theorem zig_lt (n : Int) (h1 : -9223372036854775808 ≤ n) (h2 : n ≤ 9223372036854775807) : zig n < 18446744073709551616 := by unfold zig; split <;> omega
theorem unzig_zig (n : Int) : unzig (zig n) = n := by unfold unzig zig; split <;> split <;> omega

def leb (z : Nat) : List Int := if z < 128 then [(z : Int)] else ((z % 128 + 128 : Nat) : Int) :: leb (z / 128)
decreasing_by omega

theorem leb_small (z : Nat) (h : z < 128) : leb z = [(z : Int)] := by rw [leb, if_pos h]
theorem leb_big (z : Nat) (h : 128 ≤ z) : leb z = ((z % 128 + 128 : Nat) : Int) :: leb (z / 128) := by rw [leb, if_neg (by omega)]

theorem leb_pos (z : Nat) : 1 ≤ (leb z).length := by rw [leb]; split <;> simp

theorem leb_len (k : Nat) : ∀ z, z < 128 ^ (k + 1) → (leb z).length ≤ k + 1 := by
  induction k with
  | zero => intro z h; rw [leb_small z (by simpa using h)]; simp
  | succ k ih =>
    intro z h
    by_cases g : z < 128
    · rw [leb_small z g]; simp
    · rw [leb_big z (by omega)]
      have := ih (z / 128) (by rw [Nat.pow_succ] at h; exact Nat.div_lt_of_lt_mul (by omega))
      simp; omega

def intB (n : Int) : List Int := leb (zig n)

theorem leb64 (z : Nat) (h : z < 18446744073709551616) : (leb z).length ≤ 10 := leb_len 9 z (by have : 128 ^ (9 + 1) = 1180591620717411303424 := rfl; omega)

/-- What GetInt does from the k-th byte on: the number, how many bytes it has, the error. -/
def getGo : List Int → Nat → Int → Int × Int × Int
  | [], _, _ => (0, 0, 10)
  | c :: r, k, z =>
    if (k = 9 ∧ 1 < c) ∨ (0 < k ∧ c = 0) then (0, 0, 11)
    else if c < 128 then (unzig (z + c % 128 * 2 ^ (7 * k)), (k : Int) + 1, 0)
    else getGo r (k + 1) (z + c % 128 * 2 ^ (7 * k))
def getI (bs : List Int) : Int × Int × Int := getGo bs 0 0

theorem getGo_drop (bs : List Int) (k : Nat) (c z : Int) (h : bs[k]? = some c) : getGo (bs.drop k) k z =
    if (k = 9 ∧ 1 < c) ∨ (0 < k ∧ c = 0) then (0, 0, 11) else if c < 128 then (unzig (z + c % 128 * 2 ^ (7 * k)), (k : Int) + 1, 0) else getGo (bs.drop (k+1)) (k + 1) (z + c % 128 * 2 ^ (7 * k)) := by
  obtain ⟨hk, rfl⟩ := List.getElem?_eq_some_iff.1 h
  rw [List.drop_eq_getElem_cons (by omega), getGo]

theorem getGo_end (bs : List Int) (k : Nat) (z : Int) (h : bs.length ≤ k) : getGo (bs.drop k) k z = (0, 0, 10) := by
  rw [List.drop_eq_nil_of_le h, getGo]

end Go.Proofs.YtilcpcpmkklobaaDoor

/- Plain: the value of digits, for antiquaryref01.GetInt. -/
namespace Go.Proofs.YtilcpcpmkklobaaDoor
set_option linter.unusedSimpArgs false
set_option linter.unusedVariables false
set_option linter.unnecessarySimpa false

def val : List Int → Int
  | [] => 0
  | d :: r => d % 128 + 128 * val r

theorem pow7 (k : Nat) : (2 : Int) ^ (7 * (k + 1)) = 128 * 2 ^ (7 * k) := by
  rw [show 7 * (k + 1) = 7 * k + 7 by omega, Int.pow_add, Int.mul_comm]; rfl

theorem val_snoc (c : Int) : ∀ (l : List Int), val (l ++ [c]) = val l + c % 128 * 2 ^ (7 * l.length)
  | [] => by simp [val]
  | d :: r => by
    have := val_snoc c r
    simp only [List.cons_append, val, this, List.length_cons, pow7]
    rw [Int.mul_add, ← Int.mul_assoc, ← Int.mul_assoc, Int.mul_comm 128 (c % 128)]
    omega

theorem val_take (bs : List Int) (k : Nat) (c : Int) (h : bs[k]? = some c) : val (bs.take (k+1)) = val (bs.take k) + c % 128 * 2 ^ (7 * k) := by
  obtain ⟨hk, _⟩ := List.getElem?_eq_some_iff.1 h
  rw [List.take_add_one, h, Option.toList, val_snoc, List.length_take, Nat.min_eq_left (by omega)]

theorem val_lt : ∀ (l : List Int), 0 ≤ val l ∧ val l < 2 ^ (7 * l.length)
  | [] => by simp [val]
  | d :: r => by
    have := val_lt r
    simp only [val, List.length_cons, pow7]
    omega

theorem val_last (l : List Int) (c : Int) (h : c % 128 ≤ 1) : val (l ++ [c]) < 2 * 2 ^ (7 * l.length) := by
  rw [val_snoc]
  have h1 := val_lt l
  have hp : (0 : Int) < 2 ^ (7 * l.length) := Int.pow_pos (by decide)
  have hm : c % 128 * 2 ^ (7 * l.length) ≤ 1 * 2 ^ (7 * l.length) := Int.mul_le_mul_of_nonneg_right h (by omega)
  omega

/-- All values on the way are less than 2^64. -/
theorem val_fits (bs : List Int) (k i : Nat) (c : Int) (h : bs[k]? = some c) (hk : k ≤ 9) (hi : i ≤ k + 1) (h9 : k = 9 → c ≤ 1) (hc : 0 ≤ c) : 0 ≤ val ((bs.take (k+1)).drop i) ∧ val ((bs.take (k+1)).drop i) < 18446744073709551616 := by
  refine ⟨(val_lt _).1, ?_⟩
  obtain ⟨hlt, _⟩ := List.getElem?_eq_some_iff.1 h
  by_cases g : k = 9
  · by_cases hik : i = k + 1
    · rw [List.drop_eq_nil_of_le (by simp; omega)]; simp [val]
    · have e : (bs.take (k+1)).drop i = (bs.take k).drop i ++ [c] := by
        rw [List.take_add_one, h, Option.toList, List.drop_append_of_le_length (by simp; omega)]
      have hl : ((bs.take k).drop i).length ≤ 9 := by simp; omega
      rw [e]
      have h1 := val_last ((bs.take k).drop i) c (by have := h9 g; omega)
      have hle : (2 : Int) ^ (7 * ((bs.take k).drop i).length) ≤ 2 ^ 63 := by
        have h := Nat.pow_le_pow_right (n := 2) (by decide) (show 7 * ((bs.take k).drop i).length ≤ 63 by omega)
        exact_mod_cast h
      have e2 : (2 : Int) ^ 63 = 9223372036854775808 := by decide
      omega
  · have h1 := (val_lt ((bs.take (k+1)).drop i)).2
    have hl : ((bs.take (k+1)).drop i).length ≤ 9 := by simp; omega
    have hle : (2 : Int) ^ (7 * ((bs.take (k+1)).drop i).length) ≤ 2 ^ 63 := by
      have h := Nat.pow_le_pow_right (n := 2) (by decide) (show 7 * ((bs.take (k+1)).drop i).length ≤ 63 by omega)
      exact_mod_cast h
    have e2 : (2 : Int) ^ 63 = 9223372036854775808 := by decide
    omega

theorem val_step (bs : List Int) (k i : Nat) (c : Int) (hi : i ≤ k) (h : bs[i]? = some c) : val ((bs.take (k+1)).drop i) = c % 128 + 128 * val ((bs.take (k+1)).drop (i+1)) := by
  obtain ⟨hlt, e⟩ := List.getElem?_eq_some_iff.1 h
  rw [List.drop_eq_getElem_cons (by simp; omega), val]
  simp [e]

/-- After k bytes that are not the last ones. -/
theorem getI_lead (bs : List Int) : ∀ k, k ≤ 9 → (∀ (j : Nat) (c : Int), j < k → bs[j]? = some c → 128 ≤ c) → k ≤ bs.length → getI bs = getGo (bs.drop k) k (val (bs.take k))
  | 0, _, _, _ => rfl
  | k + 1, hk, hall, hl => by
    obtain ⟨c, hc⟩ : ∃ c, bs[k]? = some c := ⟨bs[k], by simp⟩
    have h1 := hall k c (by omega) hc
    rw [getI_lead bs k (by omega) (fun j d hj => hall j d (by omega)) (by omega), getGo_drop bs k c _ hc, if_neg (by omega), if_neg (by omega), val_take bs k c hc]

theorem getI_ten (bs : List Int) (hall : ∀ (j : Nat) (c : Int), j < 10 → bs[j]? = some c → 128 ≤ c) (hl : 10 ≤ bs.length) : getI bs = (0, 0, 11) := by
  obtain ⟨c, hc⟩ : ∃ c, bs[9]? = some c := ⟨bs[9], by simp⟩
  rw [getI_lead bs 9 (by omega) (fun j d hj => hall j d (by omega)) (by omega), getGo_drop bs 9 c _ hc, if_pos]
  left; have := hall 9 c (by omega) hc; omega

theorem getI_short (bs : List Int) (k : Nat) (hk : k ≤ 9) (hall : ∀ (j : Nat) (c : Int), j < k → bs[j]? = some c → 128 ≤ c) (hl : bs.length = k) : getI bs = (0, 0, 10) := by
  rw [getI_lead bs k hk hall (by omega), getGo_end _ _ _ (by omega)]

theorem getI_bad (bs : List Int) (k : Nat) (c : Int) (hk : k ≤ 9) (hall : ∀ (j : Nat) (c : Int), j < k → bs[j]? = some c → 128 ≤ c) (hc : bs[k]? = some c) (h : (k = 9 ∧ 1 < c) ∨ (0 < k ∧ c = 0)) : getI bs = (0, 0, 11) := by
  obtain ⟨hlt, _⟩ := List.getElem?_eq_some_iff.1 hc
  rw [getI_lead bs k hk hall (by omega), getGo_drop bs k c _ hc, if_pos h]

theorem getI_good (bs : List Int) (k : Nat) (c : Int) (hk : k ≤ 9) (hall : ∀ (j : Nat) (c : Int), j < k → bs[j]? = some c → 128 ≤ c) (hc : bs[k]? = some c) (h : ¬ ((k = 9 ∧ 1 < c) ∨ (0 < k ∧ c = 0))) (h1 : c < 128) :
    getI bs = (unzig (val (bs.take (k+1))), (k : Int) + 1, 0) := by
  obtain ⟨hlt, _⟩ := List.getElem?_eq_some_iff.1 hc
  rw [getI_lead bs k hk hall (by omega), getGo_drop bs k c _ hc, if_neg h, if_pos h1, val_take bs k c hc]

end Go.Proofs.YtilcpcpmkklobaaDoor

/- Plain: lists of integers, encoded. -/
namespace Go.Proofs.YtilcpcpmkklobaaDoor
set_option linter.unusedSimpArgs false
set_option linter.unusedVariables false
set_option linter.unnecessarySimpa false

theorem getGo_ok : ∀ (l : List Int) (k : Nat) (z : Int), k ≤ 9 → 0 ≤ z → z < 2 ^ (7 * k) → (∀ c ∈ l, 0 ≤ c ∧ c < 256) → (getGo l k z).2.2 = 0 →
    (k : Int) + 1 ≤ (getGo l k z).2.1 ∧ (getGo l k z).2.1 ≤ k + l.length ∧ -9223372036854775808 ≤ (getGo l k z).1 ∧ (getGo l k z).1 ≤ 9223372036854775807
  | [], k, z, _, _, _, _, h => by simp [getGo] at h
  | c :: r, k, z, hk, h0, hz, hby, h => by
    rw [getGo] at h ⊢
    by_cases g : (k = 9 ∧ 1 < c) ∨ (0 < k ∧ c = 0)
    · rw [if_pos g] at h; simp at h
    · rw [if_neg g] at h ⊢
      obtain ⟨c0, c1⟩ := hby c (by simp)
      have hp : (0 : Int) < 2 ^ (7 * k) := Int.pow_pos (by decide)
      have hn : 0 ≤ c % 128 * 2 ^ (7 * k) := Int.mul_nonneg (by omega) (by omega)
      have hm : c % 128 * 2 ^ (7 * k) ≤ 127 * 2 ^ (7 * k) := Int.mul_le_mul_of_nonneg_right (by omega) (by omega)
      by_cases g2 : c < 128
      · rw [if_pos g2] at h ⊢
        simp only at h ⊢
        have hlt : z + c % 128 * 2 ^ (7 * k) < 18446744073709551616 := by
          by_cases g9 : k = 9
          · subst g9
            have hm : c % 128 * 2 ^ (7 * 9) ≤ 1 * 2 ^ (7 * 9) := Int.mul_le_mul_of_nonneg_right (by omega) (by omega)
            have e : (2 : Int) ^ (7 * 9) = 9223372036854775808 := by decide
            rw [e] at *
            omega
          · have hle : (2 : Int) ^ (7 * k) ≤ 2 ^ 56 := by
              have h := Nat.pow_le_pow_right (n := 2) (by decide) (show 7 * k ≤ 56 by omega)
              exact_mod_cast h
            have e : (2 : Int) ^ 56 = 72057594037927936 := by decide
            rw [e] at hle
            omega
        have hnn : 0 ≤ z + c % 128 * 2 ^ (7 * k) := by omega
        generalize z + c % 128 * 2 ^ (7 * k) = q at *
        refine ⟨by omega, by simp; omega, ?_, ?_⟩ <;> (unfold unzig; split <;> omega)
      · rw [if_neg g2] at h ⊢
        have ih := getGo_ok r (k + 1) (z + c % 128 * 2 ^ (7 * k)) (by omega) (by omega) (by rw [pow7]; omega) (fun d hd => hby d (by simp [hd])) h
        simp only [List.length_cons]
        omega

theorem getI_ok (l : List Int) (hby : ∀ c ∈ l, 0 ≤ c ∧ c < 256) (h : (getI l).2.2 = 0) :
    1 ≤ (getI l).2.1 ∧ (getI l).2.1 ≤ l.length ∧ -9223372036854775808 ≤ (getI l).1 ∧ (getI l).1 ≤ 9223372036854775807 := by
  have := getGo_ok l 0 0 (by omega) (by omega) (by simp) hby h
  unfold getI; omega

theorem getGo_err : ∀ (l : List Int) (k : Nat) (z : Int), (getGo l k z).2.2 = 0 ∨ (getGo l k z).2.2 = 10 ∨ (getGo l k z).2.2 = 11
  | [], k, z => by simp [getGo]
  | c :: r, k, z => by
    rw [getGo]
    split
    · simp
    · split
      · simp
      · exact getGo_err r _ _

/-- The length of a list whose elements have at least so many bytes. -/
def lenL (bs : List Int) (least : Int) : Int × Int × Int :=
  if (getI bs).2.2 ≠ 0 then (0, 0, (getI bs).2.2)
  else if (getI bs).1 < 0 then (0, 0, 11)
  else if (bs.length - (getI bs).2.1) / least < (getI bs).1 then (0, 0, 10)
  else ((getI bs).1, (getI bs).2.1, 0)

theorem lenL_ok (bs : List Int) (least : Int) (hby : ∀ c ∈ bs, 0 ≤ c ∧ c < 256) (h : (lenL bs least).2.2 = 0) :
    0 ≤ (lenL bs least).1 ∧ 1 ≤ (lenL bs least).2.1 ∧ (lenL bs least).2.1 ≤ bs.length ∧ (lenL bs least).1 ≤ (bs.length - (lenL bs least).2.1) / least := by
  unfold lenL at *
  by_cases h1 : (getI bs).2.2 ≠ 0
  · rw [if_pos h1] at h; exact absurd h h1
  · rw [if_neg h1] at h ⊢
    have := getI_ok bs hby (by simpa using h1)
    by_cases h2 : (getI bs).1 < 0
    · rw [if_pos h2] at h; simp at h
    · rw [if_neg h2] at h ⊢
      by_cases h3 : (bs.length - (getI bs).2.1) / least < (getI bs).1
      · rw [if_pos h3] at h; simp at h
      · rw [if_neg h3] at h ⊢
        simp only
        omega

/-- n integers, from the beginning of bytes on: them, their bytes, the error. -/
def getN : Nat → List Int → List Int × Int × Int
  | 0, _ => ([], 0, 0)
  | n + 1, bs =>
    if (getI bs).2.2 ≠ 0 then ([], 0, (getI bs).2.2)
    else if (getN n (bs.drop (getI bs).2.1.toNat)).2.2 ≠ 0 then ([], 0, (getN n (bs.drop (getI bs).2.1.toNat)).2.2)
    else ((getI bs).1 :: (getN n (bs.drop (getI bs).2.1.toNat)).1, (getI bs).2.1 + (getN n (bs.drop (getI bs).2.1.toNat)).2.1, 0)

/-- What follows some elements and some bytes. -/
def andThen (out : List Int) (at_ : Int) (s : List Int × Int × Int) : List Int × Int × Int :=
  if s.2.2 ≠ 0 then ([], 0, s.2.2) else (out ++ s.1, at_ + s.2.1, 0)

def getInts (bs : List Int) : List Int × Int × Int :=
  if (lenL bs 1).2.2 ≠ 0 then ([], 0, (lenL bs 1).2.2) else andThen [] (lenL bs 1).2.1 (getN (lenL bs 1).1.toNat (bs.drop (lenL bs 1).2.1.toNat))

theorem andThen_err (out : List Int) (at_ : Int) (n : Nat) (bs : List Int) (r : Int × Int × Int) (hr : getI bs = r) (h : r.2.2 ≠ 0) : andThen out at_ (getN (n + 1) bs) = ([], 0, r.2.2) := by
  subst hr
  simp [andThen, getN, h]
theorem andThen_step (out : List Int) (at_ : Int) (n : Nat) (bs : List Int) (r : Int × Int × Int) (hr : getI bs = r) (h : r.2.2 = 0) :
    andThen out at_ (getN (n + 1) bs) = andThen (out ++ [r.1]) (at_ + r.2.1) (getN n (bs.drop r.2.1.toNat)) := by
  subst hr
  by_cases g : (getN n (bs.drop (getI bs).2.1.toNat)).2.2 = 0
  · simp [andThen, getN, h, g]; omega
  · simp [andThen, getN, h, g]
theorem andThen_done (out : List Int) (at_ : Int) (bs : List Int) : andThen out at_ (getN 0 bs) = (out, at_, 0) := by simp [andThen, getN]

/-- The bytes of a list. -/
def intsB (l : List Int) : List Int := intB l.length ++ (l.map intB).flatten

theorem intB_len (n : Int) (h1 : -9223372036854775808 ≤ n) (h2 : n ≤ 9223372036854775807) : 1 ≤ (intB n).length ∧ (intB n).length ≤ 10 := ⟨leb_pos _, leb64 _ (zig_lt n h1 h2)⟩

theorem flat_len (l : List Int) (h : ∀ z ∈ l, -9223372036854775808 ≤ z ∧ z ≤ 9223372036854775807) : ((l.map intB).flatten).length ≤ 10 * l.length := by
  induction l with
  | nil => simp
  | cons a r ih =>
    have h1 := intB_len a (h a (by simp)).1 (h a (by simp)).2
    have h2 := ih (fun z hz => h z (by simp [hz]))
    simp only [List.map_cons, List.flatten_cons, List.length_append, List.length_cons]
    omega
theorem flat_take (l : List Int) (k : Nat) (a : Int) (h : l[k]? = some a) : ((l.take (k+1)).map intB).flatten = ((l.take k).map intB).flatten ++ intB a := by
  rw [List.take_add_one, h]; simp

end Go.Proofs.YtilcpcpmkklobaaDoor

/- Plain: Decode. -/
namespace Go.Proofs.YtilcpcpmkklobaaDoor
set_option linter.unusedSimpArgs false
set_option linter.unusedVariables false
set_option linter.unnecessarySimpa false

theorem getN_len : ∀ (n : Nat) (bs : List Int), (getN n bs).1.length ≤ n
  | 0, _ => by simp [getN]
  | n + 1, bs => by
    have := getN_len n (bs.drop (getI bs).2.1.toNat)
    rw [getN]
    split
    · simp
    · split
      · simp
      · simp; exact this

theorem getInts_len (bs : List Int) (hby : ∀ c ∈ bs, 0 ≤ c ∧ c < 256) : (getInts bs).1.length ≤ bs.length := by
  rw [getInts]
  by_cases h : (lenL bs 1).2.2 ≠ 0
  · rw [if_pos h]; simp
  · rw [if_neg h]
    have ok := lenL_ok bs 1 hby (by simpa using h)
    have hn := getN_len (lenL bs 1).1.toNat (bs.drop (lenL bs 1).2.1.toNat)
    rw [andThen]
    split
    · simp
    · simp only [List.nil_append]
      simp only [Int.ediv_one] at ok
      omega

def decL (bs : List Int) : List Int × Int :=
  if (getInts bs).2.2 ≠ 0 ∨ (getInts bs).2.1 ≠ bs.length then ([], 11)
  else if decOk (getInts bs).1 then (sumL (getInts bs).1 0, 0) else ([], 11)

def decAt (ds : List Int) (k : Nat) : List Int := (sumL ds 0).take k ++ ds.drop k

theorem decAt_length (ds : List Int) (k : Nat) : (decAt ds k).length = ds.length := by simp [decAt, sumL_length]; omega
theorem decAt_zero (ds : List Int) : decAt ds 0 = ds := by simp [decAt]
theorem decAt_all (ds : List Int) (k : Nat) (h : ds.length ≤ k) : decAt ds k = sumL ds 0 := by
  rw [decAt, List.drop_eq_nil_of_le h, List.take_of_length_le (by rw [sumL_length]; exact h)]; simp
theorem decAt_get (ds : List Int) (k : Nat) (d : Int) (h : ds[k]? = some d) : (decAt ds k)[k]? = some d := by
  have hlt := (List.getElem?_eq_some_iff.1 h).1
  rw [decAt, List.getElem?_append_right (by rw [List.length_take]; omega), List.length_take, sumL_length, Nat.min_eq_left (by omega), Nat.sub_self, List.getElem?_drop]
  simpa using h
theorem decAt_prev (ds : List Int) (k : Nat) (hk : 0 < k) (hl : k ≤ ds.length) : (decAt ds k)[k-1]? = some (lastSum ds k) := by
  rw [decAt, List.getElem?_append_left (by simp [sumL_length]; omega), lastSum]
  rw [List.getLastD_eq_getLast?, List.getLast?_eq_getElem?]
  simp only [List.length_take, sumL_length, Nat.min_eq_left hl]
  have hlt : k - 1 < ((sumL ds 0).take k).length := by simp [sumL_length]; omega
  rw [List.getElem?_eq_getElem hlt]; rfl
theorem decAt_set (ds : List Int) (k : Nat) (d : Int) (h : ds[k]? = some d) : (decAt ds k).set k (lastSum ds k + d) = decAt ds (k+1) := by
  have hlt := (List.getElem?_eq_some_iff.1 h).1
  rw [decAt, decAt, (sum_step ds k d h).1, drop_one ds k d h]
  have e : ((sumL ds 0).take k).length = k := by simp [sumL_length]; omega
  rw [List.set_append_right _ _ (by omega), e, Nat.sub_self]
  simp
theorem decAt_first (ds : List Int) (d : Int) (h : ds[0]? = some d) : decAt ds 1 = decAt ds 0 := by
  rw [← decAt_set ds 0 d h]
  match ds with
  | [] => simp at h
  | x :: r => simp at h; subst h; simp [decAt, lastSum]

end Go.Proofs.YtilcpcpmkklobaaDoor

/- Plain: how many borders are not greater than a number. -/
namespace Go.Proofs.YtilcpcpmkklobaaDoor
set_option linter.unusedSimpArgs false
set_option linter.unusedVariables false
set_option linter.unnecessarySimpa false

def runL (x y : Int) : List Int := if max x 0 < min y 4096 then [max x 0, min y 4096] else []

def afterL (zs : List Int) (x : Int) : Nat := (zs.takeWhile (fun y => decide (y ≤ x))).length

theorem afterL_eq (x : Int) : ∀ (zs : List Int) (i : Nat), i ≤ zs.length → (∀ (m : Nat) (y : Int), m < i → zs[m]? = some y → y ≤ x) → (∀ y : Int, zs[i]? = some y → x < y) → afterL zs x = i
  | [], i, hi, _, _ => by simp at hi; subst hi; rfl
  | z :: r, 0, _, _, h2 => by
    have := h2 z rfl
    simp [afterL, show ¬ z ≤ x by omega]
  | z :: r, i + 1, hi, h1, h2 => by
    have hz := h1 0 z (by omega) rfl
    have ih := afterL_eq x r i (by simpa using hi) (fun m y hm hy => h1 (m+1) y (by omega) (by simpa using hy)) (fun y hy => h2 y (by simpa using hy))
    simp only [afterL, List.takeWhile_cons, decide_eq_true_eq, hz, if_true, List.length_cons] at ih ⊢
    omega

theorem good_le {zs : List Int} (hg : Good zs) : ∀ (i j : Nat) (y z : Int), i ≤ j → zs[i]? = some y → zs[j]? = some z → y ≤ z := by
  intro i j
  induction j with
  | zero => intro y z h hy hz; obtain rfl : i = 0 := by omega
            rw [hy] at hz; cases hz; omega
  | succ j ih =>
    intro y z h hy hz
    by_cases e : i = j + 1
    · subst e; rw [hy] at hz; cases hz; omega
    · have hlt := (List.getElem?_eq_some_iff.1 hz).1
      obtain ⟨u, hu⟩ : ∃ u, zs[j]? = some u := ⟨zs[j], by simp⟩
      have h1 := ih y u (by omega) hy hu
      have h2 := hg.asc j u z hu hz
      omega

theorem hasL_after (x : Int) : ∀ (zs : List Int) (lo : Int), ascB lo zs = true → hasL zs x = decide (afterL zs x % 2 = 1) ∨ zs.length % 2 = 1
  | [], _, _ => .inl rfl
  | [_], _, _ => .inr rfl
  | a :: b :: r, lo, h => by
    simp only [ascB, Bool.and_eq_true, decide_eq_true_eq] at h
    obtain ⟨⟨h1, h2⟩, ⟨h3, h4⟩, h5⟩ := h
    rcases hasL_after x r b h5 with ih | ih
    · left
      rw [hasL]
      by_cases g1 : a ≤ x
      · by_cases g2 : b ≤ x
        · have e : afterL (a :: b :: r) x = afterL r x + 2 := by simp [afterL, g1, g2]
          rw [e, ih]
          simp [g1, show ¬ x < b by omega]
        · have e : afterL (a :: b :: r) x = 1 := by simp [afterL, g1, g2]
          rw [e]; simp [g1, show x < b by omega]
      · have e : afterL (a :: b :: r) x = 0 := by simp [afterL, g1]
        have e2 : afterL r x = 0 := by
          have := afterL_eq x r 0 (by omega) (fun m y hm => absurd hm (by omega)) (fun y hy => by have := (ascB_rng r b h5 0 y hy).1; omega)
          exact this
        rw [e, ih, e2]; simp [g1]
    · right; simp; omega

theorem hasL_eq {zs : List Int} (hv : validB zs = true) (x : Int) : hasL zs x = decide (afterL zs x % 2 = 1) := by
  simp only [validB, Bool.and_eq_true, decide_eq_true_eq] at hv
  rcases hasL_after x zs (-1) hv.1 with h | h
  · exact h
  · omega

end Go.Proofs.YtilcpcpmkklobaaDoor

/- Plain: sets as lists of borders: they are equal if they have the same slots; what Bits and merge make are sets. -/
namespace Go.Proofs.YtilcpcpmkklobaaDoor
set_option linter.unusedSimpArgs false
set_option linter.unusedVariables false
set_option linter.unnecessarySimpa false

theorem ascB_mono : ∀ (l : List Int) (lo lo' : Int), ascB lo l = true → lo' ≤ lo → ascB lo' l = true
  | [], _, _, _, _ => rfl
  | z :: r, lo, lo', h, hl => by
    simp only [ascB, Bool.and_eq_true, decide_eq_true_eq] at h ⊢
    exact ⟨⟨by omega, h.1.2⟩, h.2⟩

theorem hasL_below : ∀ (l : List Int) (lo x : Int), ascB lo l = true → x ≤ lo → hasL l x = false
  | [], _, _, _, _ => rfl
  | [_], _, _, _, _ => rfl
  | a :: b :: r, lo, x, h, hx => by
    simp only [ascB, Bool.and_eq_true, decide_eq_true_eq] at h
    rw [hasL, hasL_below r b x h.2.2 (by omega), show decide (a ≤ x) = false by simp; omega]; rfl

theorem set_ext : ∀ (a b : List Int) (lo : Int), ascB lo a = true → ascB lo b = true → a.length % 2 = 0 → b.length % 2 = 0 → (∀ x, hasL a x = hasL b x) → a = b
  | [], [], _, _, _, _, _, _ => rfl
  | [], [_], _, _, _, _, h, _ => by simp at h
  | [_], _, _, _, _, h, _, _ => by simp at h
  | [], b1 :: b2 :: br, lo, _, hb, _, _, h => by
    simp only [ascB, Bool.and_eq_true, decide_eq_true_eq] at hb
    have := h b1
    simp [hasL] at this
    omega
  | a1 :: a2 :: ar, [], lo, ha, _, _, _, h => by
    simp only [ascB, Bool.and_eq_true, decide_eq_true_eq] at ha
    have := h a1
    simp [hasL] at this
    omega
  | a1 :: a2 :: ar, [_], _, _, _, _, h, _ => by simp at h
  | a1 :: a2 :: ar, b1 :: b2 :: br, lo, ha, hb, la, lb, h => by
    simp only [ascB, Bool.and_eq_true, decide_eq_true_eq] at ha hb
    obtain ⟨⟨ha1, _⟩, ⟨ha2, ha3⟩, ha4⟩ := ha
    obtain ⟨⟨hb1, _⟩, ⟨hb2, hb3⟩, hb4⟩ := hb
    have e1 : a1 = b1 := by
      have h1 := h a1
      have h2 := h b1
      rw [hasL, hasL, show (decide (a1 ≤ a1) && decide (a1 < a2)) = true by simp; omega] at h1
      rw [hasL, hasL, show (decide (b1 ≤ b1) && decide (b1 < b2)) = true by simp; omega] at h2
      simp only [Bool.true_or, Bool.or_true] at h1 h2
      by_cases g : a1 < b1
      · rw [hasL_below br b2 a1 hb4 (by omega), show decide (b1 ≤ a1) = false by simp; omega] at h1
        simp at h1
      · by_cases g2 : b1 < a1
        · rw [hasL_below ar a2 b1 ha4 (by omega), show decide (a1 ≤ b1) = false by simp; omega] at h2
          simp at h2
        · omega
    subst e1
    have e2 : a2 = b2 := by
      by_cases g : a2 < b2
      · have h1 := h a2
        rw [hasL, hasL, hasL_below ar a2 a2 ha4 (by omega), show (decide (a1 ≤ a2) && decide (a2 < a2)) = false by simp, show (decide (a1 ≤ a2) && decide (a2 < b2)) = true by simp; omega] at h1
        simp at h1
      · by_cases g2 : b2 < a2
        · have h1 := h b2
          rw [hasL, hasL, hasL_below br b2 b2 hb4 (by omega), show (decide (a1 ≤ b2) && decide (b2 < b2)) = false by simp, show (decide (a1 ≤ b2) && decide (b2 < a2)) = true by simp; omega] at h1
          simp at h1
        · omega
    subst e2
    have e3 : ar = br := by
      refine set_ext ar br a2 ha4 hb4 (by simp at la; omega) (by simp at lb; omega) (fun x => ?_)
      by_cases g : x ≤ a2
      · rw [hasL_below ar a2 x ha4 g, hasL_below br a2 x hb4 g]
      · have h1 := h x
        rw [hasL, hasL, show decide (x < a2) = false by simp; omega] at h1
        simpa using h1
    rw [e3]

theorem valid_ext {a b : List Int} (ha : validB a = true) (hb : validB b = true) (h : ∀ x, hasL a x = hasL b x) : a = b := by
  simp only [validB, Bool.and_eq_true, decide_eq_true_eq] at ha hb
  exact set_ext a b (-1) ha.1 hb.1 ha.2 hb.2 h

/-- A list of bools, from the place x on. -/
def memB (l : List Bool) (x y : Int) : Bool := decide (x ≤ y) && l.getD (y - x).toNat false

theorem memB_cons (c : Bool) (r : List Bool) (x y : Int) : memB (c :: r) x y = ((decide (y = x) && c) || memB r (x + 1) y) := by
  unfold memB
  by_cases h : y = x
  · subst h; simp [show ¬ (y + 1 ≤ y) by omega]
  · by_cases g : x ≤ y
    · obtain ⟨k, hk⟩ : ∃ k : Nat, (y - x).toNat = k + 1 := ⟨(y - x).toNat - 1, by omega⟩
      rw [hk, show (y - (x + 1)).toNat = k by omega]
      simp [h, g, show x + 1 ≤ y by omega]
    · simp [h, g, show ¬ (x + 1 ≤ y) by omega]

theorem bitsGo_spec : ∀ (l : List Bool) (x : Int), 0 ≤ x → x + l.length ≤ 4096 →
    (ascB (x - 1) (bitsGo l x false) = true ∧ (bitsGo l x false).length % 2 = 0 ∧ ∀ y, hasL (bitsGo l x false) y = memB l x y) ∧
    (∀ s, s < x → ascB s (bitsGo l x true) = true ∧ (bitsGo l x true).length % 2 = 1 ∧ ∀ y, hasL (s :: bitsGo l x true) y = ((decide (s ≤ y) && decide (y < x)) || memB l x y))
  | [], x, h0, h1 => by
    refine ⟨⟨rfl, rfl, fun y => by simp [bitsGo, hasL, memB]⟩, fun s hs => ⟨by simp [bitsGo, ascB] at h1 ⊢; omega, rfl, fun y => by simp [bitsGo, hasL, memB]⟩⟩
  | c :: r, x, h0, h1 => by
    obtain ⟨⟨f1, f2, f3⟩, ft⟩ := bitsGo_spec r (x + 1) (by omega) (by simp at h1; omega)
    have hx : x ≤ 4096 := by simp at h1; omega
    refine ⟨?_, fun s hs => ?_⟩
    · cases c
      · refine ⟨?_, ?_, fun y => ?_⟩
        · rw [bitsGo, if_pos rfl]; exact ascB_mono _ _ _ f1 (by omega)
        · rw [bitsGo, if_pos rfl]; exact f2
        · rw [bitsGo, if_pos rfl, f3, memB_cons]; simp
      · obtain ⟨t1, t2, t3⟩ := ft x (by omega)
        refine ⟨?_, ?_, fun y => ?_⟩
        · rw [bitsGo, if_neg (by simp), ascB, t1]; simp; omega
        · rw [bitsGo, if_neg (by simp), List.length_cons]; omega
        · rw [bitsGo, if_neg (by simp), t3, memB_cons]
          congr 1
          rw [Bool.eq_iff_iff]; simp; omega
    · cases c
      · refine ⟨?_, ?_, fun y => ?_⟩
        · rw [bitsGo, if_neg (by simp), ascB]
          have := ascB_mono _ _ x f1 (by omega)
          rw [this]; simp; omega
        · rw [bitsGo, if_neg (by simp), List.length_cons]; omega
        · rw [bitsGo, if_neg (by simp), hasL, f3, memB_cons]; simp
      · obtain ⟨t1, t2, t3⟩ := ft s (by omega)
        refine ⟨?_, ?_, fun y => ?_⟩
        · rw [bitsGo, if_pos rfl]; exact t1
        · rw [bitsGo, if_pos rfl]; exact t2
        · rw [bitsGo, if_pos rfl, t3, memB_cons, ← Bool.or_assoc]
          congr 1
          rw [Bool.eq_iff_iff]; simp; omega

theorem bitsL_valid (f : Int → Bool) : validB (bitsL (tab f)) = true := by
  obtain ⟨⟨h1, h2, _⟩, _⟩ := bitsGo_spec (tab f) 0 (by omega) (by rw [tab_length]; omega)
  rw [validB, bitsL, h2]
  rw [show (0 : Int) - 1 = -1 by omega] at h1
  rw [h1]; rfl
theorem bitsL_has (f : Int → Bool) (y : Int) : hasL (bitsL (tab f)) y = (decide (0 ≤ y) && decide (y < 4096) && f y) := by
  obtain ⟨⟨_, _, h⟩, _⟩ := bitsGo_spec (tab f) 0 (by omega) (by rw [tab_length]; omega)
  rw [bitsL, h, memB]
  by_cases h0 : 0 ≤ y
  · by_cases h1 : y < 4096
    · rw [List.getD_eq_getElem?_getD, tab_get f _ (by omega)]
      have e : ((y - 0).toNat : Int) = y := by omega
      rw [e]; simp [h0, h1]
    · rw [List.getD_eq_getElem?_getD, List.getElem?_eq_none (by rw [tab_length]; omega)]; simp [h1]
  · simp [h0]

theorem has_rng (y : Int) : ∀ (l : List Int), (∀ z ∈ l, 0 ≤ z ∧ z ≤ 4096) → hasL l y = true → 0 ≤ y ∧ y < 4096
  | [], _, h => by simp [hasL] at h
  | [_], _, h => by simp [hasL] at h
  | a :: b :: r, hm, hh => by
    rw [hasL, Bool.or_eq_true] at hh
    rcases hh with hh | hh
    · simp at hh
      have h1 := hm a (by simp)
      have h2 := hm b (by simp)
      omega
    · exact has_rng y r (fun z hz => hm z (by simp [hz])) hh

theorem has_range {zs : List Int} (hv : validB zs = true) (y : Int) (h : hasL zs y = true) : 0 ≤ y ∧ y < 4096 := by
  have hg := good_of_valid hv
  exact has_rng y zs (fun z hz => by
    obtain ⟨k, hk⟩ := List.getElem?_of_mem hz
    exact hg.rng k z hk) h

/-- A valid set is what Bits makes of its slots. -/
theorem bits_of_has {zs : List Int} (hv : validB zs = true) (f : Int → Bool) (h : ∀ y, 0 ≤ y → y < 4096 → hasL zs y = f y) : zs = bitsL (tab f) := by
  refine valid_ext hv (bitsL_valid f) (fun y => ?_)
  rw [bitsL_has]
  by_cases h0 : 0 ≤ y
  · by_cases h1 : y < 4096
    · rw [h y h0 h1]; simp [h0, h1]
    · have : hasL zs y = false := by
        cases e : hasL zs y
        · rfl
        · have := has_range hv y e; omega
      rw [this]; simp [h1]
  · have : hasL zs y = false := by
      cases e : hasL zs y
      · rfl
      · have := has_range hv y e; omega
    rw [this]; simp [h0]

/-- Whether x is inside, if p says so before the list. -/
def inP (p : Bool) (l : List Int) (x : Int) : Bool := p != decide (afterL l x % 2 = 1)

theorem after_cons_le (a : Int) (l : List Int) (x : Int) (h : a ≤ x) : afterL (a :: l) x = afterL l x + 1 := by simp [afterL, h]
theorem after_low (l : List Int) (lo x : Int) (ha : ascB lo l = true) (h : x ≤ lo) : afterL l x = 0 :=
  afterL_eq x l 0 (by omega) (fun m y hm => absurd hm (by omega)) (fun y hy => by have := (ascB_rng l lo ha 0 y hy).1; omega)
theorem inP_cons (p : Bool) (a : Int) (l : List Int) (x : Int) (h : a ≤ x) : inP p (a :: l) x = inP (!p) l x := by
  rw [inP, inP, after_cons_le a l x h, odd_succ]
  cases p <;> cases decide (afterL l x % 2 = 1) <;> rfl
theorem inP_low (p : Bool) (l : List Int) (lo x : Int) (ha : ascB lo l = true) (h : x ≤ lo) : inP p l x = p := by
  rw [inP, after_low l lo x ha h]; cases p <;> rfl
theorem inP_low' (p : Bool) (a : Int) (l : List Int) (x : Int) (h : x < a) : inP p (a :: l) x = p := by
  have : afterL (a :: l) x = 0 := by simp [afterL, show ¬ a ≤ x by omega]
  rw [inP, this]; cases p <;> rfl

theorem merge_step (a : Int) (c po : Bool) (R' : List Int) (lo : Int) (hlo : lo < a) (h4 : a ≤ 4096) (hR : ascB a R' = true) (x : Int) (N : Bool) (hM : x < a → N = po) (hN : a ≤ x → inP (if c then !po else po) R' x = N) :
    ascB lo (if c then a :: R' else R') = true ∧ inP po (if c then a :: R' else R') x = N := by
  refine ⟨?_, ?_⟩
  · cases c
    · exact ascB_mono _ _ _ hR (by omega)
    · simp [ascB, hR]; omega
  · by_cases g : x < a
    · rw [hM g]
      cases c
      · exact inP_low _ _ a x hR (by omega)
      · exact inP_low' _ _ _ _ g
    · rw [← hN (by omega)]
      cases c
      · rfl
      · exact inP_cons _ _ _ _ (by omega)

theorem mergeF_spec (r : Bool → Bool → Bool) : ∀ (n : Nat) (az bs : List Int) (pa pb po : Bool) (lo : Int), az.length + bs.length ≤ n → ascB lo az = true → ascB lo bs = true → po = r pa pb →
    ascB lo (mergeF r n az bs pa pb po) = true ∧ ∀ x, inP po (mergeF r n az bs pa pb po) x = r (inP pa az x) (inP pb bs x)
  | 0, az, bs, pa, pb, po, lo, hl, ha, hb, hp => by
    have h1 : az = [] := List.eq_nil_of_length_eq_zero (by omega)
    have h2 : bs = [] := List.eq_nil_of_length_eq_zero (by omega)
    subst h1; subst h2
    exact ⟨rfl, fun x => by simp [mergeF, inP, afterL, hp]⟩
  | n + 1, az, bs, pa, pb, po, lo, hl, ha, hb, hp => by
    match az, bs with
    | [], [] => exact ⟨by rw [mergeF_nil]; rfl, fun x => by simp [mergeF, inP, afterL, hp]⟩
    | a :: az, [] =>
      simp only [ascB, Bool.and_eq_true, decide_eq_true_eq] at ha
      obtain ⟨⟨a1, a2⟩, a3⟩ := ha
      rw [mergeF_left]
      have ih := mergeF_spec r n az [] (!pa) pb (if (r (!pa) pb != po) then !po else po) a (by simp at hl ⊢; omega) a3 rfl (by cases h1 : r (!pa) pb <;> cases po <;> simp)
      have key : (if (r (!pa) pb != po) = true then a :: mergeF r n az [] (!pa) pb (!po) else mergeF r n az [] (!pa) pb po) = (if (r (!pa) pb != po) = true then a :: mergeF r n az [] (!pa) pb (if (r (!pa) pb != po) then !po else po) else mergeF r n az [] (!pa) pb (if (r (!pa) pb != po) then !po else po)) := by
        split <;> rfl
      rw [key]
      have st := fun x N hM hN => merge_step a (r (!pa) pb != po) po _ lo a1 a2 ih.1 x N hM hN
      refine ⟨(st lo po (fun _ => rfl) (fun h => absurd h (by omega))).1, fun x => (st x _ (fun g => ?_) (fun g => ?_)).2⟩
      · rw [inP_low' _ _ _ _ g, show inP pb [] x = pb by simp [inP, afterL], hp]
      · rw [ih.2, inP_cons _ _ _ _ g]
    | [], b :: bs =>
      simp only [ascB, Bool.and_eq_true, decide_eq_true_eq] at hb
      obtain ⟨⟨a1, a2⟩, a3⟩ := hb
      rw [mergeF_right]
      have ih := mergeF_spec r n [] bs pa (!pb) (if (r pa (!pb) != po) then !po else po) b (by simp at hl ⊢; omega) rfl a3 (by cases h1 : r pa (!pb) <;> cases po <;> simp)
      have key : (if (r pa (!pb) != po) = true then b :: mergeF r n [] bs pa (!pb) (!po) else mergeF r n [] bs pa (!pb) po) = (if (r pa (!pb) != po) = true then b :: mergeF r n [] bs pa (!pb) (if (r pa (!pb) != po) then !po else po) else mergeF r n [] bs pa (!pb) (if (r pa (!pb) != po) then !po else po)) := by
        split <;> rfl
      rw [key]
      have st := fun x N hM hN => merge_step b (r pa (!pb) != po) po _ lo a1 a2 ih.1 x N hM hN
      refine ⟨(st lo po (fun _ => rfl) (fun h => absurd h (by omega))).1, fun x => (st x _ (fun g => ?_) (fun g => ?_)).2⟩
      · rw [inP_low' _ _ _ _ g, show inP pa [] x = pa by simp [inP, afterL], hp]
      · rw [ih.2, inP_cons _ _ _ _ g]
    | a :: az, b :: bs =>
      have ha0 := ha
      have hb0 := hb
      simp only [ascB, Bool.and_eq_true, decide_eq_true_eq] at ha hb
      obtain ⟨⟨a1, a2⟩, a3⟩ := ha
      obtain ⟨⟨b1, b2⟩, b3⟩ := hb
      rw [mergeF.eq_5]
      by_cases g1 : a < b
      · rw [if_pos g1]
        have hb' : ascB a (b :: bs) = true := by simp [ascB, b3]; omega
        have ih := mergeF_spec r n az (b :: bs) (!pa) pb (if (r (!pa) pb != po) then !po else po) a (by simp at hl ⊢; omega) a3 hb' (by cases h1 : r (!pa) pb <;> cases po <;> simp)
        have key : (if (r (!pa) pb != po) = true then a :: mergeF r n az (b :: bs) (!pa) pb (!po) else mergeF r n az (b :: bs) (!pa) pb po) = (if (r (!pa) pb != po) = true then a :: mergeF r n az (b :: bs) (!pa) pb (if (r (!pa) pb != po) then !po else po) else mergeF r n az (b :: bs) (!pa) pb (if (r (!pa) pb != po) then !po else po)) := by
          split <;> rfl
        rw [key]
        have st := fun x N hM hN => merge_step a (r (!pa) pb != po) po _ lo a1 a2 ih.1 x N hM hN
        refine ⟨(st lo po (fun _ => rfl) (fun h => absurd h (by omega))).1, fun x => (st x _ (fun g => ?_) (fun g => ?_)).2⟩
        · rw [inP_low' _ _ _ _ g, inP_low' _ _ _ _ (by omega), hp]
        · rw [ih.2, inP_cons _ _ _ _ g]
      · rw [if_neg g1]
        by_cases g2 : b < a
        · rw [if_pos g2]
          have ha' : ascB b (a :: az) = true := by simp [ascB, a3]; omega
          have ih := mergeF_spec r n (a :: az) bs pa (!pb) (if (r pa (!pb) != po) then !po else po) b (by simp at hl ⊢; omega) ha' b3 (by cases h1 : r pa (!pb) <;> cases po <;> simp)
          have key : (if (r pa (!pb) != po) = true then b :: mergeF r n (a :: az) bs pa (!pb) (!po) else mergeF r n (a :: az) bs pa (!pb) po) = (if (r pa (!pb) != po) = true then b :: mergeF r n (a :: az) bs pa (!pb) (if (r pa (!pb) != po) then !po else po) else mergeF r n (a :: az) bs pa (!pb) (if (r pa (!pb) != po) then !po else po)) := by
            split <;> rfl
          rw [key]
          have st := fun x N hM hN => merge_step b (r pa (!pb) != po) po _ lo b1 b2 ih.1 x N hM hN
          refine ⟨(st lo po (fun _ => rfl) (fun h => absurd h (by omega))).1, fun x => (st x _ (fun g => ?_) (fun g => ?_)).2⟩
          · rw [inP_low' _ _ _ _ g, inP_low' _ _ _ _ (by omega), hp]
          · rw [ih.2, inP_cons pb b bs x g]
        · rw [if_neg g2]
          obtain rfl : a = b := by omega
          have ih := mergeF_spec r n az bs (!pa) (!pb) (if (r (!pa) (!pb) != po) then !po else po) a (by simp at hl ⊢; omega) a3 b3 (by cases h1 : r (!pa) (!pb) <;> cases po <;> simp)
          have key : (if (r (!pa) (!pb) != po) = true then a :: mergeF r n az bs (!pa) (!pb) (!po) else mergeF r n az bs (!pa) (!pb) po) = (if (r (!pa) (!pb) != po) = true then a :: mergeF r n az bs (!pa) (!pb) (if (r (!pa) (!pb) != po) then !po else po) else mergeF r n az bs (!pa) (!pb) (if (r (!pa) (!pb) != po) then !po else po)) := by
            split <;> rfl
          rw [key]
          have st := fun x N hM hN => merge_step a (r (!pa) (!pb) != po) po _ lo a1 a2 ih.1 x N hM hN
          refine ⟨(st lo po (fun _ => rfl) (fun h => absurd h (by omega))).1, fun x => (st x _ (fun g => ?_) (fun g => ?_)).2⟩
          · rw [inP_low' _ _ _ _ g, inP_low' _ _ _ _ g, hp]
          · rw [ih.2, inP_cons _ _ _ _ g, inP_cons _ _ _ _ g]

theorem after_all (l : List Int) (h : ∀ z ∈ l, z ≤ 4096) : afterL l 4096 = l.length := by
  exact afterL_eq 4096 l l.length (Nat.le_refl _) (fun m y _ hy => h y (List.mem_of_getElem? hy)) (fun y hy => by simp at hy)

theorem mergeL_spec (r : Bool → Bool → Bool) (hr : r false false = false) {xs ys : List Int} (hx : validB xs = true) (hy : validB ys = true) :
    validB (mergeL r xs ys) = true ∧ ∀ x, hasL (mergeL r xs ys) x = r (hasL xs x) (hasL ys x) := by
  have hx0 := hx
  have hy0 := hy
  simp only [validB, Bool.and_eq_true, decide_eq_true_eq] at hx hy
  obtain ⟨m1, m2⟩ := mergeF_spec r (xs.length + ys.length) xs ys false false false (-1) (Nat.le_refl _) hx.1 hy.1 hr.symm
  have hv : validB (mergeL r xs ys) = true := by
    have e := m2 4096
    simp only [inP] at e
    rw [after_all _ (fun z hz => (asc_le_last _ _ m1 z hz).2), after_all xs (fun z hz => (asc_le_last _ _ hx.1 z hz).2), after_all ys (fun z hz => (asc_le_last _ _ hy.1 z hz).2)] at e
    rw [show decide (xs.length % 2 = 1) = false by simp; omega, show decide (ys.length % 2 = 1) = false by simp; omega, show (false != false) = false from rfl, hr] at e
    rw [validB, mergeL, m1]
    simp at e ⊢
    exact e
  refine ⟨hv, fun x => ?_⟩
  rw [hasL_eq hv, hasL_eq hx0, hasL_eq hy0]
  have e := m2 x
  have f : ∀ b : Bool, (false != b) = b := by decide
  simp only [inP, f] at e
  exact e

theorem run_spec (p q : Int) : runL p q = bitsL (tab (fun j => decide (p ≤ j) && decide (j < q))) := by
  have hv : validB (runL p q) = true := by
    unfold runL
    split
    · simp [validB, ascB]; omega
    · rfl
  refine bits_of_has hv _ (fun y h0 h1 => ?_)
  unfold runL
  split
  · rw [Bool.eq_iff_iff]; simp [hasL]; omega
  · rw [Bool.eq_iff_iff]; simp [hasL]; omega

end Go.Proofs.YtilcpcpmkklobaaDoor

/- Plain: what is encoded is decoded, and the other way round. -/
namespace Go.Proofs.YtilcpcpmkklobaaDoor
set_option linter.unusedSimpArgs false
set_option linter.unusedVariables false
set_option linter.unnecessarySimpa false

theorem getGo_leb (rest : List Int) : ∀ (q k : Nat) (acc : Int), k ≤ 9 → (q : Int) * 2 ^ (7 * k) < 18446744073709551616 → (0 < k → q ≠ 0) →
    getGo (leb q ++ rest) k acc = (unzig (acc + q * 2 ^ (7 * k)), ((k + (leb q).length : Nat) : Int), 0) := by
  intro q
  induction q using Nat.strongRecOn with
  | _ q ih =>
    intro k acc hk hq h0
    have hp : (0 : Int) < 2 ^ (7 * k) := Int.pow_pos (by decide)
    by_cases g : q < 128
    · rw [leb_small q g]
      have h9 : k = 9 → (q : Int) ≤ 1 := by
        intro e; subst e
        have e2 : (2 : Int) ^ (7 * 9) = 9223372036854775808 := by decide
        rw [e2] at hq; omega
      rw [List.cons_append, List.nil_append, getGo, if_neg (by
        rintro (⟨h1, h2⟩ | ⟨h1, h2⟩)
        · have := h9 h1; omega
        · have := h0 h1; omega), if_pos (by omega), show (q : Int) % 128 = q by omega]
      simp
    · rw [leb_big q (by omega), List.cons_append, getGo]
      have hk8 : k ≤ 8 := by
        by_cases e : k = 9
        · subst e
          have e2 : (2 : Int) ^ (7 * 9) = 9223372036854775808 := by decide
          rw [e2] at hq; omega
        · omega
      rw [if_neg (by omega), if_neg (by omega)]
      have e1 : ((q % 128 + 128 : Nat) : Int) % 128 = ((q % 128 : Nat) : Int) := by omega
      have e7 : (2 : Int) ^ (7 * (k + 1)) = 128 * 2 ^ (7 * k) := pow7 k
      have e8 : ((q / 128 : Nat) : Int) * (128 * 2 ^ (7 * k)) = (((q / 128) * 128 : Nat) : Int) * 2 ^ (7 * k) := by
        rw [← Int.mul_assoc]; simp
      have hle : (((q / 128) * 128 : Nat) : Int) * 2 ^ (7 * k) ≤ (q : Int) * 2 ^ (7 * k) := Int.mul_le_mul_of_nonneg_right (by omega) (by omega)
      rw [e1, ih (q / 128) (by omega) (k + 1) _ (by omega) (by rw [e7, e8]; omega) (by omega)]
      have e9 : acc + ((q % 128 : Nat) : Int) * 2 ^ (7 * k) + ((q / 128 : Nat) : Int) * 2 ^ (7 * (k + 1)) = acc + (q : Int) * 2 ^ (7 * k) := by
        rw [e7, e8, Int.add_assoc, ← Int.add_mul]
        congr 2; omega
      rw [e9, List.length_cons]
      congr 2; omega

theorem getI_intB (n : Int) (rest : List Int) (h1 : -9223372036854775808 ≤ n) (h2 : n ≤ 9223372036854775807) : getI (intB n ++ rest) = (n, ((intB n).length : Int), 0) := by
  have hz := zig_lt n h1 h2
  rw [getI, intB, getGo_leb rest (zig n) 0 0 (by omega) (by simp; omega) (by omega)]
  simp [unzig_zig]

theorem getN_flat : ∀ (ds : List Int), (∀ z ∈ ds, -9223372036854775808 ≤ z ∧ z ≤ 9223372036854775807) → ∀ rest, getN ds.length ((ds.map intB).flatten ++ rest) = (ds, (((ds.map intB).flatten).length : Int), 0)
  | [], _, rest => rfl
  | d :: r, h, rest => by
    have hd := h d (by simp)
    have ih := getN_flat r (fun z hz => h z (by simp [hz])) rest
    simp only [List.map_cons, List.flatten_cons, List.length_cons, List.append_assoc]
    rw [getN, getI_intB d _ hd.1 hd.2]
    simp only [ne_eq, not_true_eq_false, if_false, Int.toNat_natCast, List.drop_left]
    rw [ih]
    simp

theorem flat_ge : ∀ (ds : List Int), ds.length ≤ ((ds.map intB).flatten).length
  | [] => by simp
  | d :: r => by
    have := flat_ge r
    have := leb_pos (zig d)
    simp only [List.map_cons, List.flatten_cons, List.length_append, List.length_cons]
    have e : (intB d).length = (leb (zig d)).length := rfl
    omega

theorem getInts_intsB (ds : List Int) (h : ∀ z ∈ ds, -9223372036854775808 ≤ z ∧ z ≤ 9223372036854775807) (hl : ds.length ≤ 1000000000000) : getInts (intsB ds) = (ds, ((intsB ds).length : Int), 0) := by
  have h0 := getI_intB ds.length ((ds.map intB).flatten) (by omega) (by omega)
  have hL : lenL (intsB ds) 1 = ((ds.length : Int), ((intB ds.length).length : Int), 0) := by
    rw [lenL, intsB, h0]
    have := flat_ge ds
    simp only [ne_eq, not_true_eq_false, if_false]
    rw [if_neg (by omega), if_neg (by rw [List.length_append, Int.ediv_one]; omega)]
  rw [getInts, hL]
  simp only [ne_eq, not_true_eq_false, if_false, Int.toNat_natCast]
  have e : (intsB ds).drop (intB ds.length).length = (ds.map intB).flatten ++ [] := by rw [intsB, List.drop_left]; simp
  rw [e, getN_flat ds h [], andThen]
  simp [intsB]

theorem unzig_nat (q : Nat) : zig (unzig q) = q := by unfold zig unzig; split <;> split <;> omega

theorem getGo_back : ∀ (l : List Int) (k : Nat) (acc : Int) (x u : Int), (∀ c ∈ l, 0 ≤ c ∧ c < 256) → getGo l k acc = (x, u, 0) →
    ∃ q m : Nat, u = ((k + m : Nat) : Int) ∧ l.take m = leb q ∧ x = unzig (acc + q * 2 ^ (7 * k)) ∧ (0 < k → q ≠ 0)
  | [], k, acc, x, u, _, h => by simp [getGo] at h
  | c :: r, k, acc, x, u, hby, h => by
    obtain ⟨c0, c1⟩ := hby c (by simp)
    rw [getGo] at h
    by_cases g : (k = 9 ∧ 1 < c) ∨ (0 < k ∧ c = 0)
    · rw [if_pos g] at h; simp at h
    · rw [if_neg g] at h
      by_cases g2 : c < 128
      · rw [if_pos g2] at h
        simp only [Prod.mk.injEq, and_true] at h
        obtain ⟨rfl, rfl⟩ := h
        refine ⟨c.toNat, 1, by simp, ?_, ?_, fun hk => by omega⟩
        · rw [leb_small _ (by omega)]; simp; omega
        · rw [show (c.toNat : Int) = c % 128 by omega]
      · rw [if_neg g2] at h
        obtain ⟨q, m, h1, h2, h3, h4⟩ := getGo_back r (k + 1) _ x u (fun d hd => hby d (by simp [hd])) h
        refine ⟨(c - 128).toNat + 128 * q, m + 1, by rw [h1]; omega, ?_, ?_, fun _ => by have := h4 (by omega); omega⟩
        · have := h4 (by omega)
          rw [leb_big _ (by omega), List.take_succ_cons, h2]
          congr 1
          · omega
          · congr 1; omega
        · rw [h3, pow7]
          congr 1
          have e1 : c % 128 = ((c - 128).toNat : Int) := by omega
          rw [e1, Int.add_assoc]
          congr 1
          rw [show (((c - 128).toNat + 128 * q : Nat) : Int) = ((c - 128).toNat : Int) + (q : Int) * 128 by omega, Int.add_mul, Int.mul_assoc]

theorem getI_back (l : List Int) (x u : Int) (hby : ∀ c ∈ l, 0 ≤ c ∧ c < 256) (h : getI l = (x, u, 0)) : l.take u.toNat = intB x := by
  obtain ⟨q, m, h1, h2, h3, _⟩ := getGo_back l 0 0 x u hby h
  rw [h1, h3]
  simp only [Nat.zero_add, Int.toNat_natCast, Nat.mul_zero, Int.pow_zero, Int.mul_one, Int.zero_add, intB, unzig_nat]
  exact h2

theorem getN_back : ∀ (n : Nat) (l ds : List Int) (u : Int), (∀ c ∈ l, 0 ≤ c ∧ c < 256) → getN n l = (ds, u, 0) → l.take u.toNat = (ds.map intB).flatten ∧ ds.length = n ∧ 0 ≤ u ∧ u ≤ l.length
  | 0, l, ds, u, _, h => by
    simp only [getN, Prod.mk.injEq, and_true] at h
    obtain ⟨rfl, rfl⟩ := h
    simp
  | n + 1, l, ds, u, hby, h => by
    rw [getN] at h
    obtain ⟨x, v, e, hr⟩ : ∃ x v e, getI l = (x, v, e) := ⟨_, _, _, rfl⟩
    have ok := getI_ok l hby
    rw [hr] at h ok
    simp only at h ok
    by_cases g : e ≠ 0
    · rw [if_pos g] at h
      simp only [Prod.mk.injEq] at h
      exact absurd h.2.2 g
    · rw [if_neg g] at h
      have g' : e = 0 := by simpa using g
      subst g'
      obtain ⟨o1, o2, _, _⟩ := ok rfl
      obtain ⟨d2, u2, e2, hr2⟩ : ∃ p s t, getN n (l.drop v.toNat) = (p, s, t) := ⟨_, _, _, rfl⟩
      rw [hr2] at h
      simp only at h
      by_cases g2 : e2 ≠ 0
      · rw [if_pos g2] at h
        simp only [Prod.mk.injEq] at h
        exact absurd h.2.2 g2
      · rw [if_neg g2] at h
        have g2' : e2 = 0 := by simpa using g2
        subst g2'
        simp only [Prod.mk.injEq, and_true] at h
        obtain ⟨rfl, rfl⟩ := h
        obtain ⟨i1, i2, i3, i4⟩ := getN_back n (l.drop v.toNat) d2 u2 (fun c hc => hby c (List.mem_of_mem_drop hc)) hr2
        have hb := getI_back l x v hby hr
        rw [List.length_drop] at i4
        refine ⟨?_, by simp [i2], by omega, by omega⟩
        rw [show (v + u2).toNat = v.toNat + u2.toNat by omega, List.take_add, hb, i1]
        simp

theorem getInts_back (bs ds : List Int) (hby : ∀ c ∈ bs, 0 ≤ c ∧ c < 256) (h : getInts bs = (ds, (bs.length : Int), 0)) : intsB ds = bs := by
  rw [getInts] at h
  obtain ⟨n, v, e, hr⟩ : ∃ x v e, lenL bs 1 = (x, v, e) := ⟨_, _, _, rfl⟩
  have ok := lenL_ok bs 1 hby
  rw [hr] at h ok
  simp only at h ok
  by_cases g : e ≠ 0
  · rw [if_pos g] at h
    simp only [Prod.mk.injEq] at h
    exact absurd h.2.2 g
  · rw [if_neg g] at h
    have g' : e = 0 := by simpa using g
    subst g'
    obtain ⟨o1, o2, o3, o4⟩ := ok rfl
    obtain ⟨d2, u2, e2, hr2⟩ : ∃ p s t, getN n.toNat (bs.drop v.toNat) = (p, s, t) := ⟨_, _, _, rfl⟩
    rw [hr2, andThen] at h
    simp only at h
    by_cases g2 : e2 ≠ 0
    · rw [if_pos g2] at h
      simp only [Prod.mk.injEq] at h
      exact absurd h.2.2 g2
    · rw [if_neg g2] at h
      have g2' : e2 = 0 := by simpa using g2
      subst g2'
      simp only [Prod.mk.injEq, and_true, List.nil_append] at h
      obtain ⟨rfl, hu⟩ := h
      obtain ⟨i1, i2, i3, i4⟩ := getN_back n.toNat (bs.drop v.toNat) d2 u2 (fun c hc => hby c (List.mem_of_mem_drop hc)) hr2
      rw [List.length_drop] at i4
      -- the length itself
      have hI : getI bs = (n, v, 0) := by
        have hr' := hr
        rw [lenL] at hr'
        by_cases k1 : (getI bs).2.2 ≠ 0
        · rw [if_pos k1] at hr'
          simp only [Prod.mk.injEq] at hr'
          exact absurd hr'.2.2 k1
        · rw [if_neg k1] at hr'
          by_cases k2 : (getI bs).1 < 0
          · rw [if_pos k2] at hr'; simp at hr'
          · rw [if_neg k2] at hr'
            by_cases k3 : (bs.length - (getI bs).2.1) / 1 < (getI bs).1
            · rw [if_pos k3] at hr'; simp at hr'
            · rw [if_neg k3] at hr'
              simp only [Prod.mk.injEq, and_true] at hr'
              have k1' : (getI bs).2.2 = 0 := by simpa using k1
              rw [← hr'.1, ← hr'.2, ← k1']
      have hb := getI_back bs n v hby hI
      rw [intsB, i2, show ((n.toNat : Nat) : Int) = n by omega, ← hb, ← i1, show u2.toNat = bs.length - v.toNat by omega, List.take_of_length_le (i := bs.length - v.toNat) (by simp), List.take_append_drop]

theorem stepB_diff : ∀ (zs : List Int) (l : Int), ascB l zs = true → -1 ≤ l → ∀ d ∈ diffL zs (if l = -1 then 0 else l), stepB d = true
  | [], l, _, _, d, h => by simp [diffL] at h
  | z :: r, l, h, h0, d, hd => by
    simp only [ascB, Bool.and_eq_true, decide_eq_true_eq] at h
    rw [diffL] at hd
    rcases List.mem_cons.1 hd with rfl | hd
    · simp [stepB]; split <;> omega
    · have := stepB_diff r z h.2 (by omega) d
      rw [if_neg (by omega)] at this
      exact this hd

theorem dec_enc {zs : List Int} (hv : validB zs = true) : decL (intsB (diffL zs 0)) = (zs, 0) := by
  have hg := good_of_valid hv
  have hm : ∀ z ∈ zs, 0 ≤ z ∧ z ≤ 4096 := fun z hz => by
    obtain ⟨k, hk⟩ := List.getElem?_of_mem hz
    exact hg.rng k z hk
  have hf := diffL_fit zs 0 hm (by omega) (by omega)
  have h := getInts_intsB (diffL zs 0) (fun z hz => by have := hf z hz; omega) (by rw [diffL_length]; have := hg.len; omega)
  rw [decL, h]
  simp only [ne_eq, not_true_eq_false, or_self, if_false]
  have hok : decOk (diffL zs 0) = true := by
    rw [decOk, sum_diff, hv, Bool.and_true, List.all_eq_true]
    intro d hd
    have hv' := hv
    simp only [validB, Bool.and_eq_true] at hv'
    have := stepB_diff zs (-1) hv'.1 (by omega) d
    rw [if_pos rfl] at this
    exact this hd
  rw [if_pos hok, sum_diff]

theorem enc_dec {bs ys : List Int} (hby : ∀ c ∈ bs, 0 ≤ c ∧ c < 256) (h : decL bs = (ys, 0)) : intsB (diffL ys 0) = bs ∧ validB ys = true := by
  rw [decL] at h
  by_cases g : (getInts bs).2.2 ≠ 0 ∨ (getInts bs).2.1 ≠ bs.length
  · rw [if_pos g] at h; simp at h
  · rw [if_neg g] at h
    by_cases g2 : decOk (getInts bs).1 = true
    · rw [if_pos g2] at h
      simp only [Prod.mk.injEq, and_true] at h
      subst h
      rw [diff_sum]
      refine ⟨getInts_back bs _ hby ?_, ?_⟩
      · have h1 : (getInts bs).2.2 = 0 := by omega
        have h2 : (getInts bs).2.1 = bs.length := by omega
        rw [← h1, ← h2]
      · rw [decOk, Bool.and_eq_true] at g2; exact g2.2
    · rw [if_neg g2] at h; simp at h

end Go.Proofs.YtilcpcpmkklobaaDoor

/- Plain: byte strings, encoded and decoded. -/
namespace Go.Proofs.YtilcpcpmkklobaaDoor
set_option linter.unusedSimpArgs false
set_option linter.unusedVariables false
set_option linter.unnecessarySimpa false

/-- The bytes of a string. -/
def bytesL (s : ByteArray) : List Int := s.data.toList.map fun b => (b.toNat : Int)
/-- The string of a row of bytes. -/
def strOf (bs : List Int) : ByteArray := bs.foldl (fun r n => r.push (UInt8.ofNat n.toNat)) ByteArray.empty

theorem bytesL_len (s : ByteArray) : (bytesL s).length = s.size := by simp [bytesL]
theorem bytesL_byte (s : ByteArray) : ∀ c ∈ bytesL s, 0 ≤ c ∧ c < 256 := by
  intro c hc
  obtain ⟨b, _, rfl⟩ := List.mem_map.1 hc
  have := b.toNat_lt
  omega

theorem foldl_push : ∀ (bs : List Int) (r : ByteArray), (bs.foldl (fun r n => r.push (UInt8.ofNat n.toNat)) r).data.toList = r.data.toList ++ bs.map (fun n => UInt8.ofNat n.toNat)
  | [], r => by simp
  | b :: bs, r => by
    rw [List.foldl_cons, foldl_push bs]
    simp [ByteArray.push]
theorem strOf_data (bs : List Int) : (strOf bs).data.toList = bs.map (fun n => UInt8.ofNat n.toNat) := by
  rw [strOf, foldl_push]; rfl
theorem strOf_size (bs : List Int) : (strOf bs).size = bs.length := by
  have := congrArg List.length (strOf_data bs)
  simpa using this
theorem bytesL_strOf (bs : List Int) (h : ∀ c ∈ bs, 0 ≤ c ∧ c < 256) : bytesL (strOf bs) = bs := by
  rw [bytesL, strOf_data, List.map_map]
  have : ∀ c ∈ bs, ((fun b : UInt8 => (b.toNat : Int)) ∘ fun n : Int => UInt8.ofNat n.toNat) c = c := by
    intro c hc
    have := h c hc
    simp only [Function.comp, UInt8.toNat_ofNat']
    omega
  rw [List.map_congr_left this, List.map_id']
theorem ba_ext {a b : ByteArray} (h : a.data.toList = b.data.toList) : a = b := by
  cases a with | mk x => cases b with | mk y => cases x; cases y; simp at h; subst h; rfl
theorem strOf_bytesL (s : ByteArray) : strOf (bytesL s) = s := by
  apply ba_ext
  rw [strOf_data, bytesL, List.map_map]
  have : ∀ b ∈ s.data.toList, ((fun n : Int => UInt8.ofNat n.toNat) ∘ fun b : UInt8 => (b.toNat : Int)) b = b := by
    intro b _
    simp
  rw [List.map_congr_left this, List.map_id']
theorem strOf_inj {a b : List Int} (ha : ∀ c ∈ a, 0 ≤ c ∧ c < 256) (hb : ∀ c ∈ b, 0 ≤ c ∧ c < 256) (h : strOf a = strOf b) : a = b := by
  rw [← bytesL_strOf a ha, ← bytesL_strOf b hb, h]

/-- The encoding of a string, of strings. -/
def strB (s : ByteArray) : List Int := intB s.size ++ bytesL s
def strsB (l : List ByteArray) : List Int := intB l.length ++ (l.map strB).flatten

/-- Sizes of strings that the walks meet. -/
def SmallStrs (l : List ByteArray) : Prop := ∀ s ∈ l, s.size ≤ 1000000

theorem strB_len (s : ByteArray) (h : s.size ≤ 1000000) : 1 ≤ (strB s).length ∧ (strB s).length ≤ 1000010 := by
  have := intB_len s.size (by omega) (by omega)
  rw [strB, List.length_append, bytesL_len]; omega
theorem strs_len (l : List ByteArray) (h : SmallStrs l) : ((l.map strB).flatten).length ≤ 1000010 * l.length := by
  induction l with
  | nil => simp
  | cons a r ih =>
    have h1 := strB_len a (h a (by simp))
    have h2 := ih (fun z hz => h z (by simp [hz]))
    simp only [List.map_cons, List.flatten_cons, List.length_append, List.length_cons]
    omega
theorem strs_take (l : List ByteArray) (k : Nat) (a : ByteArray) (h : l[k]? = some a) : ((l.take (k+1)).map strB).flatten = ((l.take k).map strB).flatten ++ strB a := by
  rw [List.take_add_one, h]; simp

/-- A string at the beginning of bytes: it, its bytes, the error. -/
def getS (bs : List Int) : ByteArray × Int × Int :=
  if (lenL bs 1).2.2 ≠ 0 then (ByteArray.empty, 0, (lenL bs 1).2.2)
  else (strOf ((bs.drop (lenL bs 1).2.1.toNat).take (lenL bs 1).1.toNat), (lenL bs 1).2.1 + (lenL bs 1).1, 0)

theorem getS_ok (bs : List Int) (hby : ∀ c ∈ bs, 0 ≤ c ∧ c < 256) (h : (getS bs).2.2 = 0) : 1 ≤ (getS bs).2.1 ∧ (getS bs).2.1 ≤ bs.length := by
  unfold getS at *
  have ok := lenL_ok bs 1 hby
  split at h
  · rename_i g; exact absurd h g
  · rename_i g
    rw [if_neg g]
    have := ok (by simpa using g)
    rw [Int.ediv_one] at this
    simp only
    omega

/-- n strings, from the beginning of bytes on. -/
def getNS : Nat → List Int → List ByteArray × Int × Int
  | 0, _ => ([], 0, 0)
  | n + 1, bs =>
    if (getS bs).2.2 ≠ 0 then ([], 0, (getS bs).2.2)
    else if (getNS n (bs.drop (getS bs).2.1.toNat)).2.2 ≠ 0 then ([], 0, (getNS n (bs.drop (getS bs).2.1.toNat)).2.2)
    else ((getS bs).1 :: (getNS n (bs.drop (getS bs).2.1.toNat)).1, (getS bs).2.1 + (getNS n (bs.drop (getS bs).2.1.toNat)).2.1, 0)

def andThenS (out : List ByteArray) (at_ : Int) (s : List ByteArray × Int × Int) : List ByteArray × Int × Int :=
  if s.2.2 ≠ 0 then ([], 0, s.2.2) else (out ++ s.1, at_ + s.2.1, 0)

def getStrs (bs : List Int) : List ByteArray × Int × Int :=
  if (lenL bs 1).2.2 ≠ 0 then ([], 0, (lenL bs 1).2.2) else andThenS [] (lenL bs 1).2.1 (getNS (lenL bs 1).1.toNat (bs.drop (lenL bs 1).2.1.toNat))

theorem andThenS_err (out : List ByteArray) (at_ : Int) (n : Nat) (bs : List Int) (r : ByteArray × Int × Int) (hr : getS bs = r) (h : r.2.2 ≠ 0) : andThenS out at_ (getNS (n + 1) bs) = ([], 0, r.2.2) := by
  subst hr
  simp [andThenS, getNS, h]
theorem andThenS_step (out : List ByteArray) (at_ : Int) (n : Nat) (bs : List Int) (r : ByteArray × Int × Int) (hr : getS bs = r) (h : r.2.2 = 0) :
    andThenS out at_ (getNS (n + 1) bs) = andThenS (out ++ [r.1]) (at_ + r.2.1) (getNS n (bs.drop r.2.1.toNat)) := by
  subst hr
  by_cases g : (getNS n (bs.drop (getS bs).2.1.toNat)).2.2 = 0
  · simp [andThenS, getNS, h, g]; omega
  · simp [andThenS, getNS, h, g]
theorem andThenS_done (out : List ByteArray) (at_ : Int) (bs : List Int) : andThenS out at_ (getNS 0 bs) = (out, at_, 0) := by simp [andThenS, getNS]

/- What is encoded is decoded. -/
theorem lenL_at (n : Nat) (rest : List Int) (hn : n ≤ 1000000000000) (h : n ≤ rest.length) : lenL (intB n ++ rest) 1 = ((n : Int), ((intB n).length : Int), 0) := by
  have h0 := getI_intB n rest (by omega) (by omega)
  rw [lenL, h0]
  simp only [ne_eq, not_true_eq_false, if_false]
  rw [if_neg (by omega), if_neg (by rw [List.length_append, Int.ediv_one]; omega)]

theorem getInts_rest (ds rest : List Int) (h : ∀ z ∈ ds, -9223372036854775808 ≤ z ∧ z ≤ 9223372036854775807) (hl : ds.length ≤ 1000000000000) : getInts (intsB ds ++ rest) = (ds, ((intsB ds).length : Int), 0) := by
  have hg := flat_ge ds
  have hL : lenL (intsB ds ++ rest) 1 = ((ds.length : Int), ((intB ds.length).length : Int), 0) := by
    rw [intsB, List.append_assoc]; exact lenL_at _ _ hl (by rw [List.length_append]; omega)
  rw [getInts, hL]
  simp only [ne_eq, not_true_eq_false, if_false, Int.toNat_natCast]
  have e : (intsB ds ++ rest).drop (intB ds.length).length = (ds.map intB).flatten ++ rest := by rw [intsB, List.append_assoc, List.drop_left]
  rw [e, getN_flat ds h rest, andThen]
  simp [intsB]

theorem getS_strB (s : ByteArray) (rest : List Int) (h : s.size ≤ 1000000) : getS (strB s ++ rest) = (s, ((strB s).length : Int), 0) := by
  have hL : lenL (strB s ++ rest) 1 = ((s.size : Int), ((intB s.size).length : Int), 0) := by
    rw [strB, List.append_assoc]; exact lenL_at _ _ (by omega) (by rw [List.length_append, bytesL_len]; omega)
  rw [getS, hL]
  simp only [ne_eq, not_true_eq_false, if_false, Int.toNat_natCast]
  have e : ((strB s ++ rest).drop (intB s.size).length).take s.size = bytesL s := by
    rw [strB, List.append_assoc, List.drop_left, List.take_left' (bytesL_len s)]
  rw [e, strOf_bytesL]
  simp [strB, bytesL_len]

theorem getNS_flat : ∀ (l : List ByteArray), SmallStrs l → ∀ rest, getNS l.length ((l.map strB).flatten ++ rest) = (l, (((l.map strB).flatten).length : Int), 0)
  | [], _, rest => rfl
  | d :: r, h, rest => by
    have hd := h d (by simp)
    have ih := getNS_flat r (fun z hz => h z (by simp [hz])) rest
    simp only [List.map_cons, List.flatten_cons, List.length_cons, List.append_assoc]
    rw [getNS, getS_strB d _ hd]
    simp only [ne_eq, not_true_eq_false, if_false, Int.toNat_natCast, List.drop_left]
    rw [ih]
    simp

theorem strs_ge (l : List ByteArray) (h : SmallStrs l) : l.length ≤ ((l.map strB).flatten).length := by
  induction l with
  | nil => simp
  | cons a r ih =>
    have h1 := strB_len a (h a (by simp))
    have h2 := ih (fun z hz => h z (by simp [hz]))
    simp only [List.map_cons, List.flatten_cons, List.length_append, List.length_cons]
    omega

theorem getStrs_rest (l : List ByteArray) (rest : List Int) (h : SmallStrs l) (hl : l.length ≤ 1000000000000) : getStrs (strsB l ++ rest) = (l, ((strsB l).length : Int), 0) := by
  have hg := strs_ge l h
  have hL : lenL (strsB l ++ rest) 1 = ((l.length : Int), ((intB l.length).length : Int), 0) := by
    rw [strsB, List.append_assoc]; exact lenL_at _ _ hl (by rw [List.length_append]; omega)
  rw [getStrs, hL]
  simp only [ne_eq, not_true_eq_false, if_false, Int.toNat_natCast]
  have e : (strsB l ++ rest).drop (intB l.length).length = (l.map strB).flatten ++ rest := by rw [strsB, List.append_assoc, List.drop_left]
  rw [e, getNS_flat l h rest, andThenS]
  simp [strsB]

/- What is decoded is encoded. -/
theorem lenL_back (bs : List Int) (n v : Int) (hby : ∀ c ∈ bs, 0 ≤ c ∧ c < 256) (h : lenL bs 1 = (n, v, 0)) : bs.take v.toNat = intB n ∧ 0 ≤ n ∧ 1 ≤ v ∧ v ≤ bs.length ∧ n ≤ bs.length - v := by
  have ok := lenL_ok bs 1 hby
  rw [h] at ok
  obtain ⟨o1, o2, o3, o4⟩ := ok rfl
  rw [Int.ediv_one] at o4
  have hI : getI bs = (n, v, 0) := by
    rw [lenL] at h
    by_cases k1 : (getI bs).2.2 ≠ 0
    · rw [if_pos k1] at h
      simp only [Prod.mk.injEq] at h
      exact absurd h.2.2 k1
    · rw [if_neg k1] at h
      by_cases k2 : (getI bs).1 < 0
      · rw [if_pos k2] at h; simp at h
      · rw [if_neg k2] at h
        by_cases k3 : (bs.length - (getI bs).2.1) / 1 < (getI bs).1
        · rw [if_pos k3] at h; simp at h
        · rw [if_neg k3] at h
          simp only [Prod.mk.injEq, and_true] at h
          have k1' : (getI bs).2.2 = 0 := by simpa using k1
          rw [← h.1, ← h.2, ← k1']
  exact ⟨getI_back bs n v hby hI, o1, o2, o3, o4⟩

theorem getInts_take (bs ds : List Int) (u : Int) (hby : ∀ c ∈ bs, 0 ≤ c ∧ c < 256) (h : getInts bs = (ds, u, 0)) : bs.take u.toNat = intsB ds ∧ 0 ≤ u ∧ u ≤ bs.length := by
  rw [getInts] at h
  obtain ⟨n, v, e, hr⟩ : ∃ x v e, lenL bs 1 = (x, v, e) := ⟨_, _, _, rfl⟩
  rw [hr] at h
  simp only at h
  by_cases g : e ≠ 0
  · rw [if_pos g] at h
    simp only [Prod.mk.injEq] at h
    exact absurd h.2.2 g
  · rw [if_neg g] at h
    have g' : e = 0 := by simpa using g
    subst g'
    obtain ⟨hb, o1, o2, o3, o4⟩ := lenL_back bs n v hby hr
    obtain ⟨d2, u2, e2, hr2⟩ : ∃ p s t, getN n.toNat (bs.drop v.toNat) = (p, s, t) := ⟨_, _, _, rfl⟩
    rw [hr2, andThen] at h
    simp only at h
    by_cases g2 : e2 ≠ 0
    · rw [if_pos g2] at h
      simp only [Prod.mk.injEq] at h
      exact absurd h.2.2 g2
    · rw [if_neg g2] at h
      have g2' : e2 = 0 := by simpa using g2
      subst g2'
      simp only [Prod.mk.injEq, and_true, List.nil_append] at h
      obtain ⟨rfl, rfl⟩ := h
      obtain ⟨i1, i2, i3, i4⟩ := getN_back n.toNat (bs.drop v.toNat) d2 u2 (fun c hc => hby c (List.mem_of_mem_drop hc)) hr2
      rw [List.length_drop] at i4
      refine ⟨?_, by omega, by omega⟩
      rw [intsB, i2, show ((n.toNat : Nat) : Int) = n by omega, ← hb, ← i1, show (v + u2).toNat = v.toNat + u2.toNat by omega, List.take_add]

theorem getS_back (bs : List Int) (s : ByteArray) (u : Int) (hby : ∀ c ∈ bs, 0 ≤ c ∧ c < 256) (h : getS bs = (s, u, 0)) : bs.take u.toNat = strB s ∧ 0 ≤ u ∧ u ≤ bs.length := by
  rw [getS] at h
  obtain ⟨n, v, e, hr⟩ : ∃ x v e, lenL bs 1 = (x, v, e) := ⟨_, _, _, rfl⟩
  rw [hr] at h
  simp only at h
  by_cases g : e ≠ 0
  · rw [if_pos g] at h
    simp only [Prod.mk.injEq] at h
    exact absurd h.2.2 g
  · rw [if_neg g] at h
    have g' : e = 0 := by simpa using g
    subst g'
    obtain ⟨hb, o1, o2, o3, o4⟩ := lenL_back bs n v hby hr
    simp only [Prod.mk.injEq, and_true] at h
    obtain ⟨rfl, rfl⟩ := h
    refine ⟨?_, by omega, by omega⟩
    have hl : ((bs.drop v.toNat).take n.toNat).length = n.toNat := by rw [List.length_take, List.length_drop]; omega
    rw [strB, strOf_size, hl, show ((n.toNat : Nat) : Int) = n by omega, ← hb, bytesL_strOf _ (fun c hc => hby c (List.mem_of_mem_drop (List.mem_of_mem_take hc))), show (v + n).toNat = v.toNat + n.toNat by omega, List.take_add]

theorem getNS_back : ∀ (n : Nat) (l : List Int) (ds : List ByteArray) (u : Int), (∀ c ∈ l, 0 ≤ c ∧ c < 256) → getNS n l = (ds, u, 0) → l.take u.toNat = (ds.map strB).flatten ∧ ds.length = n ∧ 0 ≤ u ∧ u ≤ l.length
  | 0, l, ds, u, _, h => by
    simp only [getNS, Prod.mk.injEq, and_true] at h
    obtain ⟨rfl, rfl⟩ := h
    simp
  | n + 1, l, ds, u, hby, h => by
    rw [getNS] at h
    obtain ⟨x, v, e, hr⟩ : ∃ x v e, getS l = (x, v, e) := ⟨_, _, _, rfl⟩
    rw [hr] at h
    simp only at h
    by_cases g : e ≠ 0
    · rw [if_pos g] at h
      simp only [Prod.mk.injEq] at h
      exact absurd h.2.2 g
    · rw [if_neg g] at h
      have g' : e = 0 := by simpa using g
      subst g'
      obtain ⟨hb, o1, o2⟩ := getS_back l x v hby hr
      obtain ⟨d2, u2, e2, hr2⟩ : ∃ p s t, getNS n (l.drop v.toNat) = (p, s, t) := ⟨_, _, _, rfl⟩
      rw [hr2] at h
      simp only at h
      by_cases g2 : e2 ≠ 0
      · rw [if_pos g2] at h
        simp only [Prod.mk.injEq] at h
        exact absurd h.2.2 g2
      · rw [if_neg g2] at h
        have g2' : e2 = 0 := by simpa using g2
        subst g2'
        simp only [Prod.mk.injEq, and_true] at h
        obtain ⟨rfl, rfl⟩ := h
        obtain ⟨i1, i2, i3, i4⟩ := getNS_back n (l.drop v.toNat) d2 u2 (fun c hc => hby c (List.mem_of_mem_drop hc)) hr2
        rw [List.length_drop] at i4
        refine ⟨?_, by simp [i2], by omega, by omega⟩
        rw [show (v + u2).toNat = v.toNat + u2.toNat by omega, List.take_add, hb, i1]
        simp

theorem getStrs_take (bs : List Int) (ds : List ByteArray) (u : Int) (hby : ∀ c ∈ bs, 0 ≤ c ∧ c < 256) (h : getStrs bs = (ds, u, 0)) : bs.take u.toNat = strsB ds ∧ 0 ≤ u ∧ u ≤ bs.length := by
  rw [getStrs] at h
  obtain ⟨n, v, e, hr⟩ : ∃ x v e, lenL bs 1 = (x, v, e) := ⟨_, _, _, rfl⟩
  rw [hr] at h
  simp only at h
  by_cases g : e ≠ 0
  · rw [if_pos g] at h
    simp only [Prod.mk.injEq] at h
    exact absurd h.2.2 g
  · rw [if_neg g] at h
    have g' : e = 0 := by simpa using g
    subst g'
    obtain ⟨hb, o1, o2, o3, o4⟩ := lenL_back bs n v hby hr
    obtain ⟨d2, u2, e2, hr2⟩ : ∃ p s t, getNS n.toNat (bs.drop v.toNat) = (p, s, t) := ⟨_, _, _, rfl⟩
    rw [hr2, andThenS] at h
    simp only at h
    by_cases g2 : e2 ≠ 0
    · rw [if_pos g2] at h
      simp only [Prod.mk.injEq] at h
      exact absurd h.2.2 g2
    · rw [if_neg g2] at h
      have g2' : e2 = 0 := by simpa using g2
      subst g2'
      simp only [Prod.mk.injEq, and_true, List.nil_append] at h
      obtain ⟨rfl, rfl⟩ := h
      obtain ⟨i1, i2, i3, i4⟩ := getNS_back n.toNat (bs.drop v.toNat) d2 u2 (fun c hc => hby c (List.mem_of_mem_drop hc)) hr2
      rw [List.length_drop] at i4
      refine ⟨?_, by omega, by omega⟩
      rw [strsB, i2, show ((n.toNat : Nat) : Int) = n by omega, ← hb, ← i1, show (v + u2).toNat = v.toNat + u2.toNat by omega, List.take_add]

/-- The numbers and strings that are decoded are not longer than the bytes. -/
theorem getInts_short (bs ds : List Int) (u : Int) (hby : ∀ c ∈ bs, 0 ≤ c ∧ c < 256) (h : getInts bs = (ds, u, 0)) : ds.length ≤ bs.length := by
  obtain ⟨h1, h2, h3⟩ := getInts_take bs ds u hby h
  have := congrArg List.length h1
  rw [intsB, List.length_append, List.length_take] at this
  have := flat_ge ds
  omega
theorem strB_pos (s : ByteArray) : 1 ≤ (strB s).length := by
  have : 1 ≤ (intB s.size).length := leb_pos _
  rw [strB, List.length_append]; omega
theorem strs_all (l : List ByteArray) : l.length ≤ ((l.map strB).flatten).length ∧ ∀ s ∈ l, s.size ≤ ((l.map strB).flatten).length := by
  induction l with
  | nil => simp
  | cons a r ih =>
    have h1 := strB_pos a
    have h2 : (strB a).length = (intB a.size).length + a.size := by rw [strB, List.length_append, bytesL_len]
    simp only [List.map_cons, List.flatten_cons, List.length_append, List.length_cons, List.mem_cons]
    refine ⟨by omega, fun s hs => ?_⟩
    rcases hs with rfl | hs
    · omega
    · have := ih.2 s hs; omega
theorem getStrs_len (bs : List Int) (ds : List ByteArray) (u : Int) (hby : ∀ c ∈ bs, 0 ≤ c ∧ c < 256) (h : getStrs bs = (ds, u, 0)) : ds.length ≤ bs.length ∧ ∀ s ∈ ds, s.size ≤ bs.length := by
  obtain ⟨h1, h2, h3⟩ := getStrs_take bs ds u hby h
  have := congrArg List.length h1
  rw [strsB, List.length_append, List.length_take] at this
  obtain ⟨a, b⟩ := strs_all ds
  exact ⟨by omega, fun s hs => by have := b s hs; omega⟩

end Go.Proofs.YtilcpcpmkklobaaDoor

/- The hash: a message that grows. -/
namespace Go.Proofs.YtilcpcpmkklobaaDoor
set_option linter.unusedSimpArgs false
set_option linter.unusedVariables false
set_option linter.unnecessarySimpa false
open Go.RowKit

structure Strm where
  st : H8
  blk : List Int
  n : Nat
def pS (s : Strm) : List PV := pH s.st ++ (s.blk.map pbyte ++ [pu64 s.n])
theorem low_pS (s : Strm) : ∀ c ∈ pS s, Low c := by
  intro c hc
  rcases List.mem_append.1 hc with h | h
  · exact low_pH _ c h
  · rcases List.mem_append.1 h with h | h
    · exact low_map (fun _ => Low.val _) _ c h
    · simp at h; subst h; exact .val _
theorem bare_pS (s : Strm) : (pS s).map PV.bare = pS s := by
  have : (s.blk.map pbyte).map PV.bare = s.blk.map pbyte := bare_map (fun _ => rfl) _
  rw [pS, List.map_append, List.map_append, this]; rfl
theorem one_pS (s : Strm) : (pS s).all PV.one = true := by
  have : (s.blk.map pbyte).all PV.one = true := one_map (fun _ => rfl) _
  rw [pS, List.all_append, List.all_append, this]; rfl
theorem len_pS {s : Strm} (h : s.blk.length = 64) : (pS s).length = 73 := by simp [pS, pH, h]
def splI (l : List Int) (at_ : Nat) (x : List Int) : List Int := l.take at_ ++ x ++ l.drop (at_ + x.length)
/-- A round. -/
def Strm.put (s : Strm) (x : List Int) : Strm := ⟨s.st, splI s.blk (s.n % 64) x, s.n + x.length⟩
def Strm.full (s : Strm) (ks : List Int) : Strm := ⟨cmpH ks s.st s.blk, s.blk, s.n⟩
def Strm.turn (ks : List Int) (s : Strm) (x : List Int) : Strm := if s.n % 64 + x.length = 64 then (s.put x).full ks else s.put x
def addS (ks : List Int) (s : Strm) (bs : List Int) : Strm :=
  if h : bs = [] then s else addS ks (s.turn ks (bs.take (64 - s.n % 64))) (bs.drop (64 - s.n % 64))
termination_by bs.length
decreasing_by
  rw [List.length_drop]
  have : bs.length ≠ 0 := fun e => h (List.eq_nil_of_length_eq_zero e)
  have := Nat.mod_lt s.n (show 0 < 64 by omega)
  omega
theorem addS_nil (ks : List Int) (s : Strm) : addS ks s [] = s := by rw [addS]; simp
theorem addS_cons (ks : List Int) (s : Strm) {bs : List Int} (h : bs ≠ []) : addS ks s bs = addS ks (s.turn ks (bs.take (64 - s.n % 64))) (bs.drop (64 - s.n % 64)) := by rw [addS, dif_neg h]
theorem splI_len {l x : List Int} {a : Nat} (h : a + x.length ≤ l.length) : (splI l a x).length = l.length := by
  simp only [splI, List.length_append, List.length_take, List.length_drop]; omega
theorem turn_blk (ks : List Int) (s : Strm) (x : List Int) : (s.turn ks x).blk = splI s.blk (s.n % 64) x := by
  unfold Strm.turn; split <;> rfl
theorem turn_n (ks : List Int) (s : Strm) (x : List Int) : (s.turn ks x).n = s.n + x.length := by
  unfold Strm.turn; split <;> rfl

theorem flat_pH (s : H8) : ∀ c ∈ pH s, Flat c := by intro c hc; simp [pH] at hc; rcases hc with rfl | rfl | rfl | rfl | rfl | rfl | rfl | rfl <;> exact .val _
theorem pS_n {s : Strm} (h : s.blk.length = 64) : (pS s)[72]? = some (pu64 s.n) := by
  rw [pS, List.getElem?_append_right (by simp [pH]), List.getElem?_append_right (by simp [pH, h])]
  simp [pH, h]
theorem pS_setN {s : Strm} (h : s.blk.length = 64) (m : Nat) : splice (pS s) (0 + 72) [pu64 m] = pS ⟨s.st, s.blk, m⟩ := by
  have h1 : (pS s).take 72 = pH s.st ++ s.blk.map pbyte := by
    rw [pS, ← List.append_assoc, List.take_left' (by simp [pH, h])]
  have h2 : (pS s).drop 73 = [] := List.drop_eq_nil_of_le (by rw [len_pS h]; omega)
  show (pS s).take 72 ++ [pu64 m] ++ (pS s).drop 73 = _
  rw [h1, h2, List.append_nil, pS, List.append_assoc]
theorem pS_setH {s : Strm} (v : H8) : splice (pS s) 0 (pH v) = pS ⟨v, s.blk, s.n⟩ := by
  show (pS s).take 0 ++ pH v ++ (pS s).drop 8 = _
  rfl
theorem pS_setB {s : Strm} (h : s.blk.length = 64) {a : Nat} {X : List Int} (hx : a + X.length ≤ 64) : splice (pS s) (8 + a) (X.map pbyte) = pS ⟨s.st, splI s.blk a X, s.n⟩ := by
  have hp : (pH s.st).length = 8 := rfl
  unfold splice
  have h1 : (pS s).take (8 + a) = pH s.st ++ (s.blk.take a).map pbyte := by
    rw [pS, ← hp, List.take_append, List.take_append_of_le_length (by simp; omega), List.take_of_length_le (by omega), Nat.add_sub_cancel_left, List.map_take]
  have h2 : (pS s).drop (8 + a + (X.map pbyte).length) = (s.blk.drop (a + X.length)).map pbyte ++ [pu64 s.n] := by
    rw [pS, List.length_map, Nat.add_assoc, ← hp, List.drop_append, List.drop_append_of_le_length (by simp; omega), List.drop_eq_nil_of_le (by omega), Nat.add_sub_cancel_left, List.nil_append, List.map_drop]
  rw [h1, h2, pS, splI]
  simp
theorem strOf_cells {M : List Int} (h : ∀ c ∈ M, 0 ≤ c ∧ c < 256) : (strOf M).data.toList.map (fun x => PV.val (.int .u8 (x.toNat : Int))) = M.map pbyte := by
  have h1 := bytesL_strOf M h
  conv => rhs; rw [← h1]
  rw [bytesL, List.map_map]; rfl
theorem heqB_iff {a b : ByteArray} : (a.toList == b.toList) = true ↔ a = b := by
  rw [ByteArray.toList_eq, ByteArray.toList_eq, beq_iff_eq]
  exact ⟨fun h => ba_ext h, fun h => h ▸ rfl⟩
theorem htoList_ne {a b : ByteArray} (h : a ≠ b) : (a.toList == b.toList) = false := by
  cases hh : (a.toList == b.toList) with
  | false => rfl
  | true => exact absurd (heqB_iff.1 hh) h
def zeroS : Strm := ⟨⟨0, 0, 0, 0, 0, 0, 0, 0⟩, List.replicate 64 0, 0⟩
theorem strOf_drop {bs : List Int} (h : ∀ c ∈ bs, 0 ≤ c ∧ c < 256) (k : Nat) : (strOf bs).extract k (strOf bs).size = strOf (bs.drop k) := by
  apply ByteArray.ext
  apply Array.ext'
  rw [strOf_data, ByteArray.data_extract, Array.toList_extract, strOf_data, strOf_size, List.extract_eq_take_drop, List.map_drop, List.take_of_length_le (by simp)]

set_option maxRecDepth 10000 in
set_option maxHeartbeats 2000000 in
theorem pw_add (s : Strm) (bs : List Int) (hs : s.blk.length = 64) (hb : ∀ c ∈ bs, 0 ≤ c ∧ c < 256) (hn : s.n + bs.length ≤ 1000000000000000) : PCalls Tryd.prog 48 [.agg (pS s), pstr (strOf bs)] (· = .agg (pS (addS glob0 s bs))) := by
  refine pcalls_of_pw typeTab_ok Tryd.func48 rfl (by kernel_rfl) (by intro p hp; simp at hp; rcases hp with rfl | rfl; exact .agg _ (low_pS s); exact lw) (by simp [pstr, PV.ownB]) (Nat.le_of_ble_eq_true rfl) ?_
  refine wk ?_
  refine PWops.boxA rfl rfl rfl rfl rfl (one_pS s) (bare_pS s) ?_
  refine wk ?_
  refine PW.loop (fun x : Strm × List Int => ((((bot.setb 0 (pS x.1)).put 2 (.ptr 0 0)).setb 1 (pS zeroS)).put 4 (.ptr 1 0)).put 1 (pstr (strOf x.2))) (fun x => x.1.blk.length = 64 ∧ (∀ c ∈ x.2, 0 ≤ c ∧ c < 256) ∧ x.1.n + x.2.length ≤ 1000000000000000 ∧ addS glob0 x.1 x.2 = addS glob0 s bs) (fun x => x.2.length) (s, bs) ⟨hs, hb, hn, rfl⟩ ?_ ?_
  · dsimp only
    have l1 := low_pS s
    have l2 := low_pS zeroS
    exact sb
  · rintro ⟨u, M⟩ ⟨hu, hM, hun, he⟩
    simp only at hu hM hun he
    simp only
    have hlt := Nat.mod_lt u.n (show 0 < 64 by omega)
    by_cases h0 : M = []
    · have hne : (!((strOf M).toList == ByteArray.empty.toList)) = false := by subst h0; rw [show strOf [] = ByteArray.empty from rfl]; simp
      refine wk ?_
      refine PWops.ldAll rfl rfl rfl rfl rfl rfl rfl (len_pS hu) (bare_pS u) ?_
      refine PWops.stAll rfl rfl rfl rfl rfl rfl rfl rfl rfl (len_pS hu) (len_pS (s := zeroS) rfl) (one_pS u) (bare_pS u) ?_
      refine wk ?_
      refine ⟨_, presult1 (pres_cell rfl rfl rfl (len_pS hu) (bare_pS u)), .agg _ (low_pS u), ?_⟩
      rw [← he, h0, addS_nil]
    · have hne : (!((strOf M).toList == ByteArray.empty.toList)) = true := by
        have h1 : strOf M ≠ ByteArray.empty := by
          intro h; apply h0
          have h2 : (strOf M).size = 0 := by rw [h]; rfl
          rw [strOf_size] at h2; exact List.eq_nil_of_length_eq_zero h2
        rw [htoList_ne h1]; rfl
      have hnn : (pS u)[72]? = some (pu64 u.n) := by
        rw [pS, List.getElem?_append_right (by simp [pH]), List.getElem?_append_right (by simp [pH, hu])]
        simp [pH, hu]
      refine wk ?_
      refine PWops.ldB rfl rfl rfl rfl rfl rfl rfl rfl hnn rfl ?_
      refine PWops.remU (b := 64) rfl rfl rfl rfl rfl rfl rfl rfl (by decide) ?_
      refine PWops.valE (q := pint ((u.n % 64 : Nat) : Int)) rfl rfl rfl (by show PV.val (.int .i64 (IntKind.i64.wrap _)) = PV.val _; try rw [wrap64_id (by omega) (by omega)]) rfl ?_
      refine wk ?_
      refine PWops.slcP (h := 64) (l := u.n % 64) rfl rfl rfl rfl rfl rfl rfl rfl (by simp [pbound, pev, PS.put, upd, PV.bare]; omega) (by decide) ?_
      refine wk ?_
      have hX : (M.take (64 - u.n % 64)).length = min M.length (64 - u.n % 64) := by rw [List.length_take]; omega
      have hbl : (splI u.blk (u.n % 64) (M.take (64 - u.n % 64))).length = 64 := by rw [splI_len (by rw [hX, hu]; omega), hu]
      have hM0 : M.length ≠ 0 := fun e => h0 (List.eq_nil_of_length_eq_zero e)
      refine PWops.copy (out := pS ⟨u.st, splI u.blk (u.n % 64) (M.take (64 - u.n % 64)), u.n⟩) (n2 := M.length) (cs := M.map pbyte) rfl rfl rfl rfl rfl (by show (some ((strOf M).size, (strOf M).data.toList.map (fun x => PV.val (.int .u8 (x.toNat : Int)))) : Option _) = _; rw [strOf_cells hM, strOf_size]) rfl rfl rfl ?_ ?_ ?_ ?_
      · rw [len_pS hu]; omega
      · rw [List.length_map]; omega
      · rw [← pS_setB hu (by rw [hX]; omega), Nat.zero_add, Nat.mul_one, Nat.mul_one, ← List.map_take]
        congr 2
        exact List.take_eq_take_iff.2 (by omega)
      refine wk ?_
      refine PWops.slcS (k := min M.length (64 - u.n % 64)) (q := strOf (M.drop (64 - u.n % 64))) rfl rfl rfl rfl rfl rfl rfl rfl rfl (by rw [strOf_size]; omega) ?_ ?_
      · rw [strOf_drop hM]
        congr 1
        by_cases hh : M.length ≤ 64 - u.n % 64
        · rw [Nat.min_eq_left hh, List.drop_eq_nil_of_le (Nat.le_refl _), List.drop_eq_nil_of_le hh]
        · rw [Nat.min_eq_right (by omega)]
      refine wk ?_
      refine PWops.ldB rfl rfl rfl rfl rfl rfl rfl rfl (pS_n hbl) rfl ?_
      refine PWops.idd ?_
      first | refine PWops.cvI rfl rfl rfl rfl (by (first | omega | (dsimp only ; omega))) (by (first | omega | (dsimp only ; omega))) rfl ?_ | refine PWops.stepA rfl ?_ | refine PWops.doneI rfl ?_ | refine PWops.boolK true rfl rfl rfl rfl (by (first | rfl | assumption | (simp only [decide_eq_true_eq, decide_eq_false_iff_not, bne_iff_ne, beq_iff_eq, beq_eq_false_iff_ne, bne_eq_false_iff_eq, ne_eq] ; omega))) rfl ?_ | refine PWops.boolK false rfl rfl rfl rfl (by (first | rfl | assumption | (simp only [decide_eq_true_eq, decide_eq_false_iff_not, bne_iff_ne, beq_iff_eq, beq_eq_false_iff_ne, bne_eq_false_iff_eq, ne_eq] ; omega))) rfl ?_ | refine PWops.fitsK rfl rfl rfl rfl (by (first | omega | (dsimp only ; omega))) (by (first | omega | (dsimp only ; omega))) rfl ?_ | refine PWops.remK rfl rfl rfl rfl (by (first | omega | (dsimp only ; omega))) rfl ?_ | refine PWops.quoK rfl rfl rfl rfl (by (first | omega | (dsimp only ; omega))) rfl ?_ | refine PWops.app rfl rfl rfl rfl rfl rfl rfl rfl (by (first | omega | (dsimp only ; omega))) (by (first | omega | (dsimp only ; omega))) (by first | rfl | exact secL_one _ | exact putL_one _ | exact one_pint _ | exact one_pstr _ | exact one_pbyte _ | exact one_pattrs _) ?_ | refine PWops.app0 rfl rfl rfl rfl rfl rfl rfl rfl (by (first | omega | (dsimp only ; omega))) (by (first | omega | (dsimp only ; omega))) (by first | rfl | exact secL_one _ | exact putL_one _ | exact one_pint _ | exact one_pstr _ | exact one_pbyte _ | exact one_pattrs _) ?_ | refine PWops.idx1 rfl rfl rfl rfl rfl rfl rfl rfl (by (first | omega | (dsimp only ; omega))) ?_ | refine PWops.idx rfl rfl rfl rfl rfl rfl rfl rfl (by (first | omega | (dsimp only ; omega))) ?_ | refine PWops.ld rfl rfl rfl rfl rfl rfl rfl (by assumption) rfl ?_ | refine PWops.ldA rfl rfl rfl rfl rfl rfl (by (first | omega | (dsimp only ; omega))) (by assumption) ?_ | refine PWops.str rfl rfl rfl rfl rfl rfl rfl rfl rfl rfl rfl ?_
      first | refine PWops.cvI rfl rfl rfl rfl (by (first | omega | (dsimp only ; omega))) (by (first | omega | (dsimp only ; omega))) rfl ?_ | refine PWops.stepA rfl ?_ | refine PWops.doneI rfl ?_ | refine PWops.boolK true rfl rfl rfl rfl (by (first | rfl | assumption | (simp only [decide_eq_true_eq, decide_eq_false_iff_not, bne_iff_ne, beq_iff_eq, beq_eq_false_iff_ne, bne_eq_false_iff_eq, ne_eq] ; omega))) rfl ?_ | refine PWops.boolK false rfl rfl rfl rfl (by (first | rfl | assumption | (simp only [decide_eq_true_eq, decide_eq_false_iff_not, bne_iff_ne, beq_iff_eq, beq_eq_false_iff_ne, bne_eq_false_iff_eq, ne_eq] ; omega))) rfl ?_ | refine PWops.fitsK rfl rfl rfl rfl (by (first | omega | (dsimp only ; omega))) (by (first | omega | (dsimp only ; omega))) rfl ?_ | refine PWops.remK rfl rfl rfl rfl (by (first | omega | (dsimp only ; omega))) rfl ?_ | refine PWops.quoK rfl rfl rfl rfl (by (first | omega | (dsimp only ; omega))) rfl ?_ | refine PWops.app rfl rfl rfl rfl rfl rfl rfl rfl (by (first | omega | (dsimp only ; omega))) (by (first | omega | (dsimp only ; omega))) (by first | rfl | exact secL_one _ | exact putL_one _ | exact one_pint _ | exact one_pstr _ | exact one_pbyte _ | exact one_pattrs _) ?_ | refine PWops.app0 rfl rfl rfl rfl rfl rfl rfl rfl (by (first | omega | (dsimp only ; omega))) (by (first | omega | (dsimp only ; omega))) (by first | rfl | exact secL_one _ | exact putL_one _ | exact one_pint _ | exact one_pstr _ | exact one_pbyte _ | exact one_pattrs _) ?_ | refine PWops.idx1 rfl rfl rfl rfl rfl rfl rfl rfl (by (first | omega | (dsimp only ; omega))) ?_ | refine PWops.idx rfl rfl rfl rfl rfl rfl rfl rfl (by (first | omega | (dsimp only ; omega))) ?_ | refine PWops.ld rfl rfl rfl rfl rfl rfl rfl (by assumption) rfl ?_ | refine PWops.ldA rfl rfl rfl rfl rfl rfl (by (first | omega | (dsimp only ; omega))) (by assumption) ?_ | refine PWops.str rfl rfl rfl rfl rfl rfl rfl rfl rfl rfl rfl ?_
      refine PWops.valE (q := pu64 ((u.n + min M.length (64 - u.n % 64) : Nat) : Int)) rfl rfl rfl (by show PV.val (.int .u64 (IntKind.u64.wrap ((u.n : Int) + IntKind.u64.wrap _))) = PV.val _; rw [IntWalk.u64_in ((min M.length (64 - u.n % 64) : Nat) : Int) (by omega), IntWalk.u64_in _ (by omega)]; congr 2) rfl ?_
      refine wk ?_
      refine PWops.stB (new := [pu64 ((u.n + min M.length (64 - u.n % 64) : Nat) : Int)]) rfl rfl rfl rfl rfl rfl rfl rfl rfl ⟨rfl, by rw [len_pS hbl]; show 0 + 72 + 1 ≤ 73; omega⟩ (pS_setN hbl _) ?_
      have hdl : (M.drop (64 - u.n % 64)).length = M.length - (64 - u.n % 64) := List.length_drop
      have l2 := low_pS zeroS
      by_cases hful : u.n % 64 + min M.length (64 - u.n % 64) = 64
      · have hc := HCalls.ofP (gm := []) (given := [(0, pS ⟨u.st, splI u.blk (u.n % 64) (M.take (64 - u.n % 64)), u.n + min M.length (64 - u.n % 64)⟩)]) (args' := [.agg (pH u.st), .msl 0 (0 + 8 + 0 * 1) (64 - 0) 1]) (pw_compress u.st (splI u.blk (u.n % 64) (M.take (64 - u.n % 64))) hbl)
          (.cons (.same _) (by
            have e : pbytes (splI u.blk (u.n % 64) (M.take (64 - u.n % 64))) = .sl (64 - 0) 1 (((pS ⟨u.st, splI u.blk (u.n % 64) (M.take (64 - u.n % 64)), u.n + min M.length (64 - u.n % 64)⟩).drop (0 + 8 + 0 * 1)).take ((64 - 0) * 1)) none := by
              rw [pbytes]
              refine sl_eq (by rw [hbl]) ?_
              show _ = (((splI u.blk (u.n % 64) (M.take (64 - u.n % 64))).map pbyte ++ [_])).take 64
              rw [List.take_left' (by rw [List.length_map, hbl])]
            rw [e]
            exact .cons (.msl _ _ _ _ _ (by simp) (by rw [len_pS hbl]; decide)) .nil))
          (fun x hx c hcx => by simp at hx; subst hx; exact (low_pS _ c hcx).lowI) (by simp) (.agg _ (flat_pH _)) rfl
        refine wk ?_
        refine PWops.stB (new := pH (cmpH glob0 u.st (splI u.blk (u.n % 64) (M.take (64 - u.n % 64))))) rfl rfl rfl rfl rfl rfl rfl rfl rfl ⟨rfl, by rw [len_pS hbl]; show 0 + 8 ≤ 73; omega⟩ (pS_setH _) ?_
        refine wk ?_
        have ht : u.turn glob0 (M.take (64 - u.n % 64)) = ⟨cmpH glob0 u.st (splI u.blk (u.n % 64) (M.take (64 - u.n % 64))), splI u.blk (u.n % 64) (M.take (64 - u.n % 64)), u.n + min M.length (64 - u.n % 64)⟩ := by rw [Strm.turn, if_pos (by rw [hX]; exact hful), Strm.put, Strm.full, hX]
        have l1 := low_pS ⟨cmpH glob0 u.st (splI u.blk (u.n % 64) (M.take (64 - u.n % 64))), splI u.blk (u.n % 64) (M.take (64 - u.n % 64)), u.n + min M.length (64 - u.n % 64)⟩
        refine loopP (⟨cmpH glob0 u.st (splI u.blk (u.n % 64) (M.take (64 - u.n % 64))), splI u.blk (u.n % 64) (M.take (64 - u.n % 64)), u.n + min M.length (64 - u.n % 64)⟩, M.drop (64 - u.n % 64)) ⟨hbl, fun c hcx => hM c (List.mem_of_mem_drop hcx), by simp only [hdl]; omega, ?_⟩ (by simp only [hdl]; omega) ?_
        · rw [← he, addS_cons glob0 u h0, ht]
        · dsimp only
          exact sb
      · refine wk ?_
        have ht : u.turn glob0 (M.take (64 - u.n % 64)) = ⟨u.st, splI u.blk (u.n % 64) (M.take (64 - u.n % 64)), u.n + min M.length (64 - u.n % 64)⟩ := by rw [Strm.turn, if_neg (by rw [hX]; exact hful), Strm.put, hX]
        have l1 := low_pS ⟨u.st, splI u.blk (u.n % 64) (M.take (64 - u.n % 64)), u.n + min M.length (64 - u.n % 64)⟩
        refine loopP (⟨u.st, splI u.blk (u.n % 64) (M.take (64 - u.n % 64)), u.n + min M.length (64 - u.n % 64)⟩, M.drop (64 - u.n % 64)) ⟨hbl, fun c hcx => hM c (List.mem_of_mem_drop hcx), by simp only [hdl]; omega, ?_⟩ (by simp only [hdl]; omega) ?_
        · rw [← he, addS_cons glob0 u h0, ht]
        · dsimp only
          exact sb
end Go.Proofs.YtilcpcpmkklobaaDoor

/- The hash: the end of a message. -/
namespace Go.Proofs.YtilcpcpmkklobaaDoor
set_option linter.unusedSimpArgs false
set_option linter.unusedVariables false
set_option linter.unnecessarySimpa false
open Go.RowKit

def h8L (s : H8) : List Int := [s.a, s.b, s.c, s.d, s.e, s.f, s.g, s.h]
/-- How many zeros the padding has. -/
def zc (n : Nat) : Nat := (119 - n % 64) % 64
def hByteAt (m : Int) (i : Nat) : Int := IntKind.u8.wrap (m.fdiv (2 ^ (min (56 - 8 * (i : Int)).toNat IntKind.u64.bits)))
def be8 (m : Int) (k : Nat) : List Int := (List.range k).map (hByteAt m)
def padI (n : Nat) : List Int := 128 :: List.replicate (zc n) 0 ++ be8 (IntKind.u64.wrap (8 * (n : Int))) 8
def outV (s : H8) (i : Nat) : Int := IntKind.u8.wrap (((h8L s).getD (i / 4) default).fdiv (2 ^ (min (24 - 8 * ((i : Int) % 4)).toNat IntKind.u32.bits)))
def outW (s : H8) : Nat → List Int
  | 0 => List.replicate 32 0
  | i + 1 => (outW s i).set i (outV s i)
theorem outW_len (s : H8) : ∀ i, (outW s i).length = 32
  | 0 => by simp [outW]
  | i + 1 => by rw [outW, List.length_set, outW_len s i]
def sumS (ks : List Int) (s : Strm) : List Int := outW (addS ks s (padI s.n)).st 32
theorem pS_h {s : Strm} {j : Nat} (h : j < 8) : (pS s)[j]? = some (pu32 ((h8L s.st).getD j default)) := by
  match j, h with
  | 0, _ => rfl
  | 1, _ => rfl
  | 2, _ => rfl
  | 3, _ => rfl
  | 4, _ => rfl
  | 5, _ => rfl
  | 6, _ => rfl
  | 7, _ => rfl
theorem hByteAt_ok (m : Int) (i : Nat) : 0 ≤ hByteAt m i ∧ hByteAt m i < 256 := by
  unfold hByteAt
  rw [IntKind.wrap_u8]; omega
theorem padI_byte (n : Nat) : ∀ c ∈ padI n, 0 ≤ c ∧ c < 256 := by
  intro c hc
  rcases List.mem_append.1 hc with h | h
  · rcases List.mem_cons.1 h with rfl | h
    · decide
    · obtain ⟨-, rfl⟩ := List.mem_replicate.1 h; decide
  · obtain ⟨i, -, rfl⟩ := List.mem_map.1 h; exact hByteAt_ok _ _
theorem padI_len (n : Nat) : (padI n).length = zc n + 9 := by simp [padI, be8]
theorem turn_len {ks : List Int} {s : Strm} {x : List Int} (h : s.blk.length = 64) (hx : s.n % 64 + x.length ≤ 64) : (s.turn ks x).blk.length = 64 := by
  rw [turn_blk, splI_len (by omega), h]

theorem addS_len (ks : List Int) : ∀ (n : Nat) (s : Strm) (bs : List Int), bs.length = n → s.blk.length = 64 → (addS ks s bs).blk.length = 64 := by
  intro n
  induction n using Nat.strongRecOn with
  | _ n ih =>
    intro s bs hl h
    by_cases h0 : bs = []
    · subst h0; rw [addS_nil]; exact h
    · have h1 : bs.length ≠ 0 := fun e => h0 (List.eq_nil_of_length_eq_zero e)
      have h2 := Nat.mod_lt s.n (show 0 < 64 by omega)
      rw [addS_cons ks s h0]
      exact ih _ (by rw [← hl, List.length_drop]; omega) _ _ rfl (turn_len h (by rw [List.length_take]; omega))

set_option maxRecDepth 10000 in
set_option maxHeartbeats 2000000 in
theorem pw_sum (s : Strm) (hs : s.blk.length = 64) (hn : s.n ≤ 100000000000000) : PCalls Tryd.prog 50 [.agg (pS s)] (· = .agg ((sumS glob0 s).map pbyte)) := by
  refine pcalls_of_pw typeTab_ok Tryd.func50 rfl (by kernel_rfl) (by intro p hp; simp at hp; subst hp; exact .agg _ (low_pS s)) (by simp [PV.ownB]) (Nat.le_of_ble_eq_true rfl) ?_
  have hlt := Nat.mod_lt s.n (show 0 < 64 by omega)
  have l1 := low_pS s
  refine wk ?_
  refine PWops.boxA rfl rfl rfl rfl rfl (one_pS s) (bare_pS s) ?_
  refine wk ?_
  refine PWops.ldB rfl rfl rfl rfl rfl rfl rfl rfl (pS_n hs) rfl ?_
  refine wk ?_
  refine PW.loop (fun k : Nat => ((((((bot.setb 0 (pS s)).put 1 (.ptr 0 0)).setb 1 (List.replicate 32 (pbyte 0))).put 2 (.ptr 1 0)).put 3 (pu64 (IntKind.u64.wrap (8 * (s.n : Int))))).put 4 (.sl (k + 1) 1 ((128 :: List.replicate k 0).map pbyte) (some 5)))) (fun k => k ≤ zc s.n) (fun k => zc s.n - k) 0 (by omega) ?_ ?_
  · exact sb
  · intro k hk
    have hz : zc s.n = (119 - s.n % 64) % 64 := rfl
    refine wk ?_
    refine PWops.ldB rfl rfl rfl rfl rfl rfl rfl rfl (pS_n hs) rfl ?_
    refine PWops.valE (q := pint (s.n : Int)) rfl rfl rfl (by show PV.val (.int .i64 (IntKind.i64.wrap _)) = PV.val _; try rw [wrap64_id (by omega) (by omega)]) rfl ?_
    by_cases hkz : k < zc s.n
    · refine wk ?_
      refine loopP (k + 1) (by omega) (by omega) ?_
      have e : (128 :: List.replicate (k + 1) (0 : Int)).map pbyte = (128 :: List.replicate k 0).map pbyte ++ [pbyte 0] := by
        rw [List.replicate_succ']; simp
      have ll : Low (.sl (k + 1 + 1) 1 ((128 :: List.replicate (k + 1) (0 : Int)).map pbyte) (some 5)) := low_mapB
      rw [e] at ll ⊢
      exact sb
    · have e : k = zc s.n := by omega
      subst e
      refine wk ?_
      have hp0 : (128 :: List.replicate (zc s.n) (0 : Int)) ++ be8 (IntKind.u64.wrap (8 * (s.n : Int))) 0 = 128 :: List.replicate (zc s.n) 0 := by simp [be8]
      have hpl : ∀ i, ((128 :: List.replicate (zc s.n) (0 : Int)) ++ be8 (IntKind.u64.wrap (8 * (s.n : Int))) i).length = zc s.n + 1 + i := by intro i; simp [be8]; omega
      refine PW.loop (fun i : Nat => ((((((bot.setb 0 (pS s)).put 1 (.ptr 0 0)).setb 1 (List.replicate 32 (pbyte 0))).put 2 (.ptr 1 0)).put 3 (pu64 (IntKind.u64.wrap (8 * (s.n : Int))))).put 4 (.sl (zc s.n + 1 + i) 1 (((128 :: List.replicate (zc s.n) 0) ++ be8 (IntKind.u64.wrap (8 * (s.n : Int))) i).map pbyte) (some 5))).put 23 (pint i)) (fun i => i ≤ 8) (fun i => 8 - i) 0 (by omega) ?_ ?_
      · rw [hp0]
        exact sb
      · intro i hi
        by_cases h8 : i < 8
        · refine wk ?_
          refine loopP (i + 1) (by omega) (by omega) ?_
          have e2 : ((128 :: List.replicate (zc s.n) (0 : Int)) ++ be8 (IntKind.u64.wrap (8 * (s.n : Int))) (i + 1)).map pbyte = ((128 :: List.replicate (zc s.n) (0 : Int)) ++ be8 (IntKind.u64.wrap (8 * (s.n : Int))) i).map pbyte ++ [pbyte (hByteAt (IntKind.u64.wrap (8 * (s.n : Int))) i)] := by
            rw [be8, be8, List.range_succ]; simp
          have ll : Low (.sl (zc s.n + 1 + (i + 1)) 1 (((128 :: List.replicate (zc s.n) (0 : Int)) ++ be8 (IntKind.u64.wrap (8 * (s.n : Int))) (i + 1)).map pbyte) (some 5)) := low_mapB
          rw [e2] at ll ⊢
          exact sb
        · have e : i = 8 := by omega
          subst e
          have ha := pw_add s (padI s.n) hs (padI_byte _) (by rw [padI_len]; omega)
          have hul := addS_len glob0 _ s (padI s.n) rfl hs
          obtain ⟨u, hu⟩ : ∃ u, u = addS glob0 s (padI s.n) := ⟨_, rfl⟩
          rw [← hu] at ha hul
          rw [show sumS glob0 s = outW u.st 32 by rw [sumS, hu]]
          have l2 := low_pS u
          refine wk ?_
          refine PWops.ldAll rfl rfl rfl rfl rfl rfl rfl (len_pS hs) (bare_pS s) ?_
          refine wk ?_
          refine PWops.stAll rfl rfl rfl rfl rfl rfl rfl rfl rfl (len_pS hul) (len_pS hs) (one_pS u) (bare_pS u) ?_
          refine wk ?_
          refine PW.loop (fun i : Nat => ((((((bot.setb 0 (pS u)).put 1 (.ptr 0 0)).setb 1 (List.replicate 32 (pbyte 0))).put 2 (.ptr 1 0)).setb 11000 ((outW u.st i).map pbyte)).put 6 (.ptr 11000 0)).put 40 (pint i)) (fun i => i ≤ 32) (fun i => 32 - i) 0 (by omega) ?_ ?_
          · exact sb
          · intro i hi
            have hol := outW_len u.st i
            by_cases h32 : i < 32
            · have hc : (pS u)[((i : Int) / 4).toNat]? = some (pu32 ((h8L u.st).getD (i / 4) default)) := by
                rw [show ((i : Int) / 4).toNat = i / 4 by omega]; exact pS_h (by omega)
              have hS : (outW u.st (i + 1)).map pbyte = ((outW u.st i).set (i : Int).toNat (outV u.st i)).map pbyte := rfl
              refine wk ?_
              refine PWops.ldB rfl rfl rfl rfl rfl rfl rfl rfl hc rfl ?_
              refine wk ?_
              refine loopP (i + 1) (by omega) (by omega) ?_
              exact sb
            · have e : i = 32 := by omega
              subst e
              generalize outW u.st 32 = O at *
              refine wk ?_
              exact ⟨_, presult1 (pres_cell rfl rfl rfl (len_map hol) (bare_map (fun _ => rfl) _)), by exact lw, rfl⟩
end Go.Proofs.YtilcpcpmkklobaaDoor

/- Pure states: a new slice as a pure value, contracts of one argument. -/
namespace Go.Proofs.YtilcpcpmkklobaaDoor
set_option linter.unusedSimpArgs false
set_option linter.unusedVariables false
set_option linter.unnecessarySimpa false
open Go.RowKit

/-- A new slice of bytes: what it reads as. -/
def pbytesO (zs : List Int) : PV := .sl zs.length 1 (zs.map pbyte) (some 5)

section
variable {Φ : Imm} {μ : Nat → Option Nat} {w : World} (himm : ∀ b o u, Φ b o = some u → w.cell? ⟨b, o, none⟩ = some u)
include himm

theorem post_flat {w' : World} {post : PV → Prop} {r : PV} {v : Value} (hr : Rep Φ mu0 r v) (hf : r.ownB = false) (hp : post r) (hb : Below w.heap.size w w') : CallPost Φ w post (.returned v) w' := by
  refine ⟨r, v, Φ, rfl, hp, hr, fun b o u e => below_cell hb (himm b o u e), fun _ _ _ => rfl, hb, fun n k cs E e => ?_⟩
  rw [e] at hf; simp [PV.ownB] at hf

/-- A new slice as a pure value. -/
theorem own_rep {w' : World} {E : TypeId} {v : Value} {α : Type} {f : α → Value} {l : List α} (hplain : ∀ x, plainV (f x) = true) (ho : Own w.heap.size E w' v (l.map f)) (hb : Below w.heap.size w w') (hE : E < 1000000 := by decide) :
    ∃ Φ' : Imm, (∀ b o u, Φ' b o = some u → w'.cell? ⟨b, o, none⟩ = some u) ∧ (∀ b o, b < w.heap.size → Φ' b o = Φ b o) ∧ Rep Φ' mu0 (.sl l.length 1 (l.map fun x => .val (f x)) (some E)) v ∧ OwnAt (fun g => w.heap.size ≤ g) Φ' (fun _ => some (.tmp 0)) w' (.tmp 0) l.length 1 E v := by
  have himm' : ∀ b o u, Φ b o = some u → w'.cell? ⟨b, o, none⟩ = some u := fun b o u e => below_cell hb (himm b o u e)
  have hfr : ∀ b o u, Φ b o = some u → b < w.heap.size := fun b o u e => World.block_lt_of_cell? _ _ (himm b o u e)
  rcases ho.2 with ⟨rfl, hn⟩ | ⟨g, cap, cur, rfl, hBg, hgg, hc, hm, hs, ht⟩
  · have hl : l = [] := List.eq_nil_of_length_eq_zero (by simpa using hn)
    subst hl
    exact ⟨Φ, himm', fun _ _ _ => rfl, .sl0 _ _ _ _ (by unfold maxLen; omega), .inl ⟨rfl, rfl⟩⟩
  · simp only [List.length_map, Nat.mul_one] at hc ht hs
    refine ⟨fun b o => if b = g then (l.map f)[o]? else Φ b o, ?_, ?_, ?_, ?_⟩
    · intro b o u e
      by_cases hbg : b = g
      · subst hbg
        simp only [if_true] at e
        rw [← ht, List.getElem?_take] at e
        split at e
        · simp only [World.cell?, hgg]; simpa using e
        · cases e
      · simp only [if_neg hbg] at e; exact himm' b o u e
    · intro b o hbo; simp only; rw [if_neg (by omega)]
    · have hlen : (Value.slice (some ⟨g, 0, none⟩) (l.map f).length cap) = .slice (some ⟨g, 0, none⟩) l.length cap := by simp
      rw [hlen]
      refine .sl _ _ _ _ g 0 cap (fun j => ((l.map f)[j]?).getD undef) (by simp) hc hm (fun j hj => ?_) (fun j c hcj => ?_)
      · have hj' : j < l.length := by simpa using hj
        simp [hj']
      · rw [List.getElem?_map] at hcj
        obtain ⟨x, hx, rfl⟩ := Option.map_eq_some_iff.1 hcj
        simp only [List.getElem?_map, hx, Option.map_some, Option.getD_some]
        exact .val _ (hplain x)
    · refine .inr (.inl ⟨g, cap, cur, by simp, hBg, hgg, hc, hm, by simpa using hs, rfl, hE, fun j hj => ?_⟩)
      simp only [if_true]
      rw [List.getElem?_eq_none (by simp; omega)]

theorem post_own {w' : World} {E : TypeId} {v : Value} {α : Type} {f : α → Value} {l : List α} (hplain : ∀ x, plainV (f x) = true) (ho : Own w.heap.size E w' v (l.map f)) (hb : Below w.heap.size w w') (hE : E < 1000000 := by decide) : CallPost Φ w (· = .sl l.length 1 (l.map fun x => .val (f x)) (some E)) (.returned v) w' := by
  obtain ⟨Φ', h1, h2, h3, h4⟩ := own_rep himm hplain ho hb hE
  refine ⟨_, v, Φ', rfl, rfl, h3, h1, h2, hb, fun n k cs E' e => ?_⟩
  cases e
  exact h4

end

/-- A contract over memory as one over pure values: one argument. -/
theorem pcalls1 {P : Program} {f : FuncId} {p : PV} {post : PV → Prop} (hc : callB P f = true) (h : ∀ (Φ : Imm) (μ : Nat → Option Nat) (w : World) (v : Value), (∀ b o u, Φ b o = some u → w.cell? ⟨b, o, none⟩ = some u) → Rep Φ μ p v → Calls P f #[v] w (CallPost Φ w post)) : PCalls P f [p] post := by
  refine ⟨hc, fun Φ μ w vs himm hgl hr => ?_⟩
  match vs, hr with
  | [v], hr => exact h Φ μ w v himm (hr.2 0 _ _ rfl rfl)
  | [], hr => exact absurd hr.1 (by simp)
  | _ :: _ :: _, hr => exact absurd hr.1 (by simp)
end Go.Proofs.YtilcpcpmkklobaaDoor

/- What the operators on bits give, where wire uses them. -/
namespace Go.Proofs.YtilcpcpmkklobaaDoor
set_option linter.unusedSimpArgs false
set_option linter.unusedVariables false
set_option linter.unnecessarySimpa false

theorem wraps_u64 (n : Int) (h₀ : 0 ≤ n) (h₁ : n < 2 ^ 64) : IntKind.u64.wrap n = n := by rw [IntKind.wrap_u64]; omega

theorem xor_u64_0 (x : Int) (h0 : 0 ≤ x) (h1 : x < 18446744073709551616) : bits .xor .u64 x 0 = x := by
  obtain ⟨a, rfl⟩ : ∃ a : Nat, x = a := ⟨x.toNat, by omega⟩
  have := bits_xor_u64_nat a 0 (by omega) (by omega)
  simpa using this

theorem xor_u64_ones (x : Int) (h0 : 0 ≤ x) (h1 : x < 18446744073709551616) : bits .xor .u64 x 18446744073709551615 = 18446744073709551615 - x := by
  obtain ⟨a, rfl⟩ : ∃ a : Nat, x = a := ⟨x.toNat, by omega⟩
  have e : (BitVec.ofInt IntKind.u64.bits 18446744073709551615 : BitVec IntKind.u64.bits) = BitVec.allOnes 64 := rfl
  have e2 : ((BitVec.ofInt IntKind.u64.bits (a : Int) : BitVec IntKind.u64.bits) ^^^ BitVec.ofInt IntKind.u64.bits 18446744073709551615).toNat = 18446744073709551615 - a := by
    rw [e]
    show ((BitVec.ofInt 64 (a : Int)) ^^^ BitVec.allOnes 64).toNat = _
    rw [BitVec.xor_allOnes, BitVec.toNat_not, BitVec.toNat_ofInt]
    omega
  show IntKind.u64.wrap _ = _
  simp only []
  rw [e2, IntKind.wrap_u64]
  omega

theorem xor_i64_0 (x : Int) (h0 : -9223372036854775808 ≤ x) (h1 : x < 9223372036854775808) : bits .xor .i64 x 0 = x := by
  have e2 : ((BitVec.ofInt IntKind.i64.bits x : BitVec IntKind.i64.bits) ^^^ BitVec.ofInt IntKind.i64.bits 0).toNat = (x % 18446744073709551616).toNat := by
    show ((BitVec.ofInt 64 x) ^^^ BitVec.ofInt 64 0).toNat = _
    rw [show BitVec.ofInt 64 0 = 0#64 from rfl, BitVec.xor_zero, BitVec.toNat_ofInt]
    rfl
  show IntKind.i64.wrap _ = _
  simp only []
  rw [e2, IntKind.wrap_i64]
  omega

theorem xor_i64_ones (x : Int) (h0 : -9223372036854775808 ≤ x) (h1 : x < 9223372036854775808) : bits .xor .i64 x (-1) = -1 - x := by
  have e2 : ((BitVec.ofInt IntKind.i64.bits x : BitVec IntKind.i64.bits) ^^^ BitVec.ofInt IntKind.i64.bits (-1)).toNat = 18446744073709551615 - (x % 18446744073709551616).toNat := by
    show ((BitVec.ofInt 64 x) ^^^ BitVec.ofInt 64 (-1)).toNat = _
    rw [show BitVec.ofInt 64 (-1) = BitVec.allOnes 64 from rfl, BitVec.xor_allOnes, BitVec.toNat_not, BitVec.toNat_ofInt]
    rfl
  show IntKind.i64.wrap _ = _
  simp only []
  rw [e2, IntKind.wrap_i64]
  omega

theorem u8_and127 (x : Int) (h₀ : 0 ≤ x) (h₁ : x < 256) : bits .and .u8 x 127 = x % 128 := bits_mask .u8 8 (by decide) wraps_u8 7 (by decide) x h₀ h₁
theorem u64_and1 (x : Int) (h₀ : 0 ≤ x) (h₁ : x < 18446744073709551616) : bits .and .u64 x 1 = x % 2 := bits_mask .u64 64 (by decide) wraps_u64 1 (by decide) x h₀ h₁

theorem bits_or_comm (k : IntKind) (x y : Int) : bits .or k x y = bits .or k y x := by
  simp only [bits, BitVec.or_comm]

theorem u8_or128' (q : Int) (h0 : 0 ≤ q) : bits .or .u8 (q % 256) 128 = q % 128 + 128 := by
  obtain ⟨a, rfl⟩ : ∃ a : Nat, q = a := ⟨q.toNat, by omega⟩
  have h := (bits_nat .u8 8 (by decide) wraps_u8 (a % 256) 128 (by omega) (by omega)).2
  have e : (a % 256 ||| 128 : Nat) = a % 128 + 128 := by
    have key : ∀ x : Fin 256, (x.val ||| 128 : Nat) = x.val % 128 + 128 := by decide +kernel
    have := key ⟨a % 256, by omega⟩
    simp only at this
    rw [this]; omega
  rw [e] at h
  have c1 : ((a % 256 : Nat) : Int) = (a : Int) % 256 := by omega
  have c2 : ((128 : Nat) : Int) = 128 := rfl
  rw [c1, c2] at h
  rw [h]; omega

/-- z |= d << (7k), where z has only lower bits. -/
theorem u64_or_shift (z d : Int) (k : Nat) (hk : k ≤ 9) (hz0 : 0 ≤ z) (hz : z < 2 ^ (7 * k)) (hd0 : 0 ≤ d) (hd9 : d * 2 ^ (7 * k) < 18446744073709551616) :
    bits .or .u64 z (d * 2 ^ (7 * k)) = z + d * 2 ^ (7 * k) := by
  have hp : (0 : Int) < 2 ^ (7 * k) := Int.pow_pos (by decide)
  have hle : (2 : Int) ^ (7 * k) ≤ 9223372036854775808 := by
    have : (2 : Int) ^ (7 * k) ≤ 2 ^ 63 := by
      have h := Nat.pow_le_pow_right (n := 2) (by decide) (show 7 * k ≤ 63 by omega)
      exact_mod_cast h
    simpa using this
  rw [bits_or_comm, bits_join .u64 64 (by decide) wraps_u64 (7 * k) _ _ (Int.mul_nonneg hd0 (by omega)) (by simp) (by simpa using hd9) hz0 hz (by
    have : (2 : Int) ^ 64 = 18446744073709551616 := by decide
    omega)]
  omega

end Go.Proofs.YtilcpcpmkklobaaDoor

/- The walks of wire and antiquaryref01: Int and GetInt. -/
namespace Go.Proofs.YtilcpcpmkklobaaDoor
set_option linter.unusedSimpArgs false
set_option linter.unusedVariables false
set_option linter.unnecessarySimpa false
open Go.RowKit
theorem elemByte : Elem1 Tryd.prog 5 (.int .u8 0) 1 := ⟨by kernel_rfl, rfl⟩

/-- The call returns a new slice of bytes. -/
def MadeBytes (w : World) (bs : List Int) (e : Ending) (w' : World) : Prop :=
  ∃ v, e = .returned v ∧ Own w.heap.size 5 w' v (bs.map (Value.int .u8)) ∧ Below w.heap.size w w'

/-- A slice of bytes. -/
def Bytes (w : World) (v : Value) (bs : List Int) : Prop := Rd w v (bs.map (Value.int .u8))

theorem Bytes.open {w : World} {v : Value} {zs : List Int} (h : Bytes w v zs) : ∃ a cap b off, v = .slice a zs.length cap ∧ zs.length ≤ cap ∧ cap ≤ maxLen ∧
    (0 < zs.length → a = some ⟨b, off, none⟩) ∧ Hid (∀ (j : Nat) (x : Int), zs[j]? = some x → w.cell? ⟨b, off + j, none⟩ = some (.int .u8 x)) := by
  obtain ⟨a, cap, b, off, h1, h2, h3, h4, h5⟩ := h
  simp only [List.length_map] at h1 h2 h4
  exact ⟨a, cap, b, off, h1, h2, h3, h4, fun j x hx => h5 j _ (by simp [hx])⟩

def Byte (bs : List Int) : Prop := ∀ (k : Nat) (c : Int), bs[k]? = some c → 0 ≤ c ∧ c < 256

theorem zig_walk (n : Int) (h1 : -9223372036854775808 ≤ n) (h2 : n ≤ 9223372036854775807) :
    bits BinOp.xor IntKind.u64 (IntKind.u64.wrap (IntKind.u64.wrap n * 2)) (IntKind.u64.wrap (n / 9223372036854775808)) = zig n := by
  simp only [IntKind.wrap_u64]
  by_cases h : 0 ≤ n
  · have e : n / 9223372036854775808 % 18446744073709551616 = 0 := by omega
    rw [e, xor_u64_0 _ (by omega) (by omega)]; unfold zig; rw [if_pos h]; omega
  · have e : n / 9223372036854775808 % 18446744073709551616 = 18446744073709551615 := by omega
    rw [e, xor_u64_ones _ (by omega) (by omega)]; unfold zig; rw [if_neg h]; omega

set_option maxRecDepth 100000 in
set_option maxHeartbeats 400000 in
theorem wireInt (n : Int) (w : World) (h1 : -9223372036854775808 ≤ n) (h2 : n ≤ 9223372036854775807) : Calls Tryd.prog 54 #[.int .i64 n] w (MadeBytes w (intB n)) := by
  have hz := zig_lt n h1 h2
  have hlen := leb64 _ hz
  go_enter Tryd.func54, Tryd.ntmps54
  go_wp2
  go_loopw [3, 4] (fun z o wr => ∃ (q : Nat) (out : List Int), q < 18446744073709551616 ∧ z = .int .u64 q ∧ out.length ≤ 9 ∧ Own w.heap.size 5 wr o (out.map (Value.int .u8)) ∧ Below w.heap.size w wr ∧ Hid (intB n = out ++ leb q)) (fun z _ _ => (intOf z).toNat)
  case atStart => exact ⟨zig n, [], hz, by rw [zig_walk n h1 h2], by simp, Own.nil _ _ _, Below.refl _ _, rfl⟩
  case round =>
    obtain ⟨q, out, hq, rfl, ho, hown, hb, hh⟩ := hrel
    have HB := Hid.mk hb
    clear hb
    have hb2 := HB.out.size
    by_cases g : 127 < q
    · have H := Hid.mk (leb_big q (by omega))
      have hl : out.length + 1 ≤ 9 := by
        have e := congrArg List.length hh.out
        rw [H.out] at e
        have := leb_pos (q / 128)
        simp at e
        unfold intB at e
        omega
      have eor := u8_or128' q (by omega)
      go_wp2_with (at_builtin; refine wp_push (.tmp 16) (.tmp 20) 37 _ 5 1 _ elemByte rfl rfl Tryd.underlying37 w.heap.size _ _ _ rfl hown rfl rfl (by simp [maxLen]; omega) (by simp; omega) hb2 ?_; intro v' w' hown' hb')
      go_roundw
      case rel => exact ⟨q / 128, out ++ [((q % 128 + 128 : Nat) : Int)], by omega, by go_num, by simpa using hl, by simpa using hown', HB.out.trans hb', by rw [Hid, hh.out, H.out]; simp⟩
      case measure => simp [intOf]; omega
    · have H := Hid.mk (leb_small q (by omega))
      go_wp2_with (at_builtin; refine wp_push (.tmp 22) (.tmp 25) 37 _ 5 1 _ elemByte rfl rfl Tryd.underlying37 w.heap.size _ _ _ rfl hown rfl rfl (by simp [maxLen]; omega) (by simp; omega) hb2 ?_; intro v' w' hown' hb')
      go_ret
      exact ⟨_, rfl, by rw [hh.out, H.out]; simpa using hown', HB.out.trans hb'⟩

end Go.Proofs.YtilcpcpmkklobaaDoor

/- The walks of wire: the bytes of a string. -/
namespace Go.Proofs.YtilcpcpmkklobaaDoor
set_option linter.unusedSimpArgs false
set_option linter.unusedVariables false
set_option linter.unnecessarySimpa false
open Go.RowKit

theorem strCells_eq (s : ByteArray) : Lib.strCells s = (bytesL s).map (Value.int .u8) := by
  simp [Lib.strCells, bytesL]

set_option maxRecDepth 100000 in
theorem wireBytes (s : ByteArray) (w : World) (hs : s.size ≤ 1000000000) : Calls Tryd.prog 49 #[.string s] w (MadeBytes w (strB s)) := by
  have hl0 := intB_len s.size (by omega) (by omega)
  go_enter Tryd.func49, Tryd.ntmps49
  go_wp2_with (first | (at_builtin; refine wp_appendStr (.tmp 5) (.tmp 6) 37 9 5 elemByte rfl rfl Tryd.underlying37 Tryd.underlying9 w.heap.size _ _ s rfl ho1 rfl (by rw [List.length_map]; omega) hb1.size ?_; intro v' w' hown' hb') | (go_at_call 54; refine (wireInt _ _ (by omega) (by omega)).mono ?_; rintro e w1 ⟨v1, rfl, ho1, hb1⟩))
  go_ret
  exact ⟨_, rfl, by rw [strB, List.map_append, ← strCells_eq]; exact hown', hb1.trans hb'⟩
end Go.Proofs.YtilcpcpmkklobaaDoor

/- The hash: digests of parts. -/
namespace Go.Proofs.YtilcpcpmkklobaaDoor
set_option linter.unusedSimpArgs false
set_option linter.unusedVariables false
set_option linter.unnecessarySimpa false
open Go.RowKit

def beginS : Strm := ⟨⟨1779033703, 3144134277, 1013904242, 2773480762, 1359893119, 2600822924, 528734635, 1541459225⟩, List.replicate 64 0, 0⟩
set_option maxRecDepth 10000 in
set_option maxHeartbeats 2000000 in
theorem pw_begin : PCalls Tryd.prog 47 [] (· = .agg (pS beginS)) := by
  refine pcalls_of_pw typeTab_ok Tryd.func47 rfl (by kernel_rfl) (by simp) (by simp) (Nat.le_of_ble_eq_true rfl) ?_
  refine wk ?_
  exact ⟨_, presult1 (pres_cell rfl rfl rfl rfl rfl), .agg _ (low_pS beginS), rfl⟩

theorem pcWBytes (s : ByteArray) (hl : s.size ≤ 1000000000) : PCalls Tryd.prog 49 [pstr s] (· = pbytesO (strB s)) :=
  pcalls1 (by kernel_rfl) fun Φ μ w v himm hr => by
    obtain ⟨rfl, -⟩ := hr.val_inv
    exact (wireBytes s w hl).mono (by
    rintro e w' ⟨u, rfl, ho, hb⟩
    exact post_own himm (fun _ => rfl) ho hb)

def partsS (ks : List Int) : Strm → List ByteArray → Strm
  | s, [] => s
  | s, p :: l => partsS ks (addS ks s (strB p)) l
def ofS (ks : List Int) (tag : Int) (l : List ByteArray) : List Int := (sumS ks (partsS ks (addS ks beginS [IntKind.u8.wrap tag]) l)).take 16
theorem addS_n (ks : List Int) : ∀ (n : Nat) (s : Strm) (bs : List Int), bs.length = n → (addS ks s bs).n = s.n + bs.length := by
  intro n
  induction n using Nat.strongRecOn with
  | _ n ih =>
    intro s bs hl
    by_cases h0 : bs = []
    · subst h0; rw [addS_nil]; rfl
    · have h1 : bs.length ≠ 0 := fun e => h0 (List.eq_nil_of_length_eq_zero e)
      have h2 := Nat.mod_lt s.n (show 0 < 64 by omega)
      rw [addS_cons ks s h0, ih _ (by rw [← hl, List.length_drop]; omega) _ _ rfl, turn_n, List.length_take, List.length_drop]
      omega
theorem partsS_snoc (ks : List Int) : ∀ (l : List ByteArray) (s : Strm) (p : ByteArray), partsS ks s (l ++ [p]) = addS ks (partsS ks s l) (strB p)
  | [], s, p => rfl
  | q :: l, s, p => by rw [List.cons_append, partsS, partsS, partsS_snoc ks l]
theorem partsS_ok (ks : List Int) (s : Strm) (hs : s.blk.length = 64) (l : List ByteArray) (hl : SmallStrs l) : (partsS ks s l).blk.length = 64 ∧ (partsS ks s l).n ≤ s.n + l.length * 1000010 := by
  induction l generalizing s with
  | nil => exact ⟨hs, by simp [partsS]⟩
  | cons p l ih =>
    have h1 := ih (addS ks s (strB p)) (addS_len ks _ s (strB p) rfl hs) (fun x hx => hl x (List.mem_cons_of_mem _ hx))
    have h2 := (strB_len p (hl p (List.mem_cons_self ..))).2
    have h3 := addS_n ks _ s (strB p) rfl
    refine ⟨h1.1, ?_⟩
    have h4 := h1.2
    rw [partsS, List.length_cons]
    omega
theorem leb_byte (n : Nat) : ∀ z, z < n → ∀ c ∈ leb z, 0 ≤ c ∧ c < 256 := by
  induction n with
  | zero => intro z h; omega
  | succ n ih =>
    intro z hz c hc
    by_cases h : z < 128
    · rw [leb_small z h] at hc; simp at hc; subst hc; omega
    · rw [leb_big z (by omega)] at hc
      rcases List.mem_cons.1 hc with rfl | hc
      · omega
      · exact ih (z / 128) (by omega) c hc
theorem intB_byte (n : Int) : ∀ c ∈ intB n, 0 ≤ c ∧ c < 256 := leb_byte _ _ (Nat.lt_succ_self _)
theorem strB_byte (p : ByteArray) (h : p.size ≤ 1000000) : ∀ c ∈ strB p, 0 ≤ c ∧ c < 256 := by
  intro c hc
  rcases List.mem_append.1 hc with h | h
  · exact intB_byte _ c h
  · exact bytesL_byte p c h

set_option maxRecDepth 10000 in
set_option maxHeartbeats 2000000 in
theorem pw_of (tag : Int) (l : List ByteArray) (hl : l.length ≤ 1000000) (hs : SmallStrs l) : PCalls Tryd.prog 44 [pint tag, pstrs l] (· = .agg ((ofS glob0 tag l).map pbyte)) := by
  refine pcalls_of_pw typeTab_ok Tryd.func44 rfl (by kernel_rfl) (by exact lw) (by simp [pint, pstrs, PV.ownB]) (Nat.le_of_ble_eq_true rfl) ?_
  have hb := pw_begin
  have ha := pw_add beginS [IntKind.u8.wrap tag] rfl (by intro c hc; simp at hc; subst hc; rw [IntKind.wrap_u8]; omega) (by simp [beginS])
  have h0l := addS_len glob0 _ beginS [IntKind.u8.wrap tag] rfl rfl
  have h0n := addS_n glob0 _ beginS [IntKind.u8.wrap tag] rfl
  rw [show ofS glob0 tag l = (sumS glob0 (partsS glob0 (addS glob0 beginS [IntKind.u8.wrap tag]) l)).take 16 from rfl]
  obtain ⟨s0, hs0⟩ : ∃ s0, s0 = addS glob0 beginS [IntKind.u8.wrap tag] := ⟨_, rfl⟩
  rw [← hs0] at ha h0l h0n ⊢
  have h0n' : s0.n = 1 := h0n
  have l0 := low_pS s0
  have hok := fun i => partsS_ok glob0 s0 h0l (l.take i) (fun x hx => hs x (List.mem_of_mem_take hx))
  refine wk ?_
  refine PWops.stAll rfl rfl rfl rfl rfl rfl rfl rfl rfl (len_pS h0l) rfl (one_pS s0) (bare_pS s0) ?_
  refine wk ?_
  refine PW.loop (fun i : Nat => (((((((bot.setb 0 (List.replicate 16 (pbyte 0))).put 4 (.ptr 0 0)).setb 1006 (pS (partsS glob0 s0 (l.take i)))).put 5 (.ptr 1006 0)).put 15 (pstrs l)).put 16 (pint l.length)).put 17 (pint i))) (fun i => i ≤ l.length) (fun i => l.length - i) 0 (by omega) ?_ ?_
  · exact sb
  · intro i hi
    have hoi := hok i
    have hti : (l.take i).length = i := by rw [List.length_take]; omega
    rw [hti] at hoi
    have li := low_pS (partsS glob0 s0 (l.take i))
    by_cases hlt : i < l.length
    · have hsm : (l.getD i default).size ≤ 1000000 := hs _ (by rw [List.getD_eq_getElem?_getD, List.getElem?_eq_getElem hlt]; exact List.getElem_mem hlt)
      have hpl := (strB_len (l.getD i default) hsm).2
      have hw := pcWBytes (l.getD i default) (by omega)
      have hadd := pw_add (partsS glob0 s0 (l.take i)) (strB (l.getD i default)) hoi.1 (strB_byte _ hsm) (by have := hoi.2; omega)
      have hnx : partsS glob0 s0 (l.take (i + 1)) = addS glob0 (partsS glob0 s0 (l.take i)) (strB (l.getD i default)) := by rw [take_getD default hlt, partsS_snoc]
      have hal := addS_len glob0 _ _ (strB (l.getD i default)) rfl hoi.1
      rw [← hnx] at hadd hal
      have li2 := low_pS (partsS glob0 s0 (l.take (i + 1)))
      refine wk ?_
      refine PWops.ldAll rfl rfl rfl rfl rfl rfl rfl (len_pS hoi.1) (bare_pS _) ?_
      refine wk ?_
      refine PWops.stAll rfl rfl rfl rfl rfl rfl rfl rfl rfl (len_pS hal) (len_pS hoi.1) (one_pS _) (bare_pS _) ?_
      refine wk ?_
      refine loopP (i + 1) (by omega) (by omega) ?_
      exact sb
    · have e : i = l.length := by omega
      subst e
      rw [List.take_length] at hoi li ⊢
      have hsum := pw_sum (partsS glob0 s0 l) hoi.1 (by have := hoi.2; omega)
      have hsl : (sumS glob0 (partsS glob0 s0 l)).length = 32 := outW_len _ _
      clear hok ha hs0 hb h0n hi
      generalize partsS glob0 s0 l = u at *
      generalize sumS glob0 u = D at *
      refine wk ?_
      refine PWops.ldAll rfl rfl rfl rfl rfl rfl rfl (len_pS hoi.1) (bare_pS _) ?_
      refine wk ?_
      refine PWops.ldBA (row := (D.take 16).map pbyte) rfl rfl rfl rfl rfl rfl rfl (by rw [List.length_map, hsl]; decide) (by show List.map PV.bare (List.take 16 (List.drop 0 (List.map pbyte D))) = _; rw [List.drop_zero, ← List.map_take, bare_map (fun _ => rfl)]) ?_
      have htl : (D.take 16).length = 16 := by rw [List.length_take, hsl]; rfl
      refine PWops.stAll rfl rfl rfl rfl rfl rfl rfl rfl rfl (len_map htl) rfl (one_map (fun _ => rfl) _) (bare_map (fun _ => rfl) _) ?_
      refine wk ?_
      exact ⟨_, presult1 (pres_cell rfl rfl rfl (len_map htl) (bare_map (fun _ => rfl) _)), .agg _ (low_map (fun _ => Low.val _) _), rfl⟩
end Go.Proofs.YtilcpcpmkklobaaDoor

/- The journal: the digest. -/
namespace Go.Proofs.YtilcpcpmkklobaaDoor
set_option linter.unusedSimpArgs false
set_option linter.unusedVariables false
set_option linter.unnecessarySimpa false
open Go.RowKit

/-- The bytes of a number of a sector. -/
def numL (z : Int) : List Int := [IntKind.u8.wrap z, IntKind.u8.wrap (z.fdiv (2 ^ min (Int.toNat 8) IntKind.i64.bits)), IntKind.u8.wrap (z.fdiv (2 ^ min (Int.toNat 16) IntKind.i64.bits)), IntKind.u8.wrap (z.fdiv (2 ^ min (Int.toNat 24) IntKind.i64.bits))]
def dPart (p : PPut) : List ByteArray := [strOf (numL p.sec), strOf p.dat.1]
def dParts (l : List PPut) : List ByteArray := l.flatMap dPart
theorem dParts_len : ∀ (l : List PPut), (dParts l).length = l.length * 2
  | [] => rfl
  | p :: l => by
    show (dPart p ++ dParts l).length = _
    rw [List.length_append, dParts_len l, List.length_cons]
    show 2 + _ = _
    omega
theorem dParts_snoc (l : List PPut) (p : PPut) : dParts (l ++ [p]) = dParts l ++ dPart p := by
  rw [dParts, List.flatMap_append]
  show _ ++ (dPart p ++ []) = _
  rw [List.append_nil]; rfl
theorem dParts_small (l : List PPut) : SmallStrs (dParts l) := by
  intro s hs
  obtain ⟨p, -, hp⟩ := List.mem_flatMap.1 hs
  simp only [dPart, List.mem_cons, List.not_mem_nil, or_false] at hp
  rcases hp with rfl | rfl
  · rw [strOf_size]; simp [numL]
  · rw [strOf_size, p.dat.2.1]; omega
/-- The parts so far. -/
def outD (l : List PPut) : Nat → PV
  | 0 => .nilsl
  | k + 1 => .sl (k * 2 + 2) 1 ((dParts (l.take (k + 1))).map pstr) (some 9)
theorem low_outD (l : List PPut) : ∀ k, Low (outD l k)
  | 0 => .nilsl
  | k + 1 => low_mapS
theorem outD_full (l : List PPut) (h : 0 < l.length) : outD l l.length = .sl (l.length * 2) 1 ((dParts l).map pstr) (some 9) := by
  cases l with
  | nil => simp at h
  | cons p l =>
    show outD (p :: l) (l.length + 1) = _
    rw [outD, List.take_of_length_le (by simp), List.length_cons, Nat.add_mul]
theorem put_dat (p : PPut) : (((putL p).drop 1).take 64).map PV.bare = p.dat.1.map pbyte := by
  show List.map PV.bare (List.take 64 (secL p.dat)) = _
  rw [List.take_of_length_le (by rw [secL_len]; exact Nat.le_refl _), secL_bare]; rfl

set_option maxRecDepth 10000 in
set_option maxHeartbeats 2000000 in
theorem pw_digest (l : List PPut) (hl : l.length ≤ 100000) (hl0 : 0 < l.length) : PCalls Tryd.prog 33 [pputs l] (· = .agg ((ofS glob0 240 (dParts l)).map pbyte)) := by
  refine pcalls_of_pw typeTab_ok Tryd.func33 rfl (by kernel_rfl) (by simp [low_pputs]) (by simp [pputs, PV.ownB]) (Nat.le_of_ble_eq_true rfl) ?_
  have hlw := low_outD l
  have hll := low_pputs l
  have hof := pw_of 240 (dParts l) (by rw [dParts_len]; omega) (dParts_small l)
  rw [show pstrs (dParts l) = .sl (l.length * 2) 1 ((dParts l).map pstr) none by rw [pstrs, dParts_len]] at hof
  have hlo : (ofS glob0 240 (dParts l)).length = 16 := by rw [ofS, List.length_take, sumS, outW_len]; rfl
  obtain ⟨O, hO⟩ : ∃ O, O = ofS glob0 240 (dParts l) := ⟨_, rfl⟩
  rw [← hO] at hof hlo ⊢
  clear hO
  refine wk ?_
  refine PW.loop (fun k : Nat => ((((bot.put 2 (.ptr 0 0)).setb 0 (List.replicate 16 (pbyte 0))).put 3 (outD l k)).put 7 (pputs l)).put 8 (pint l.length) |>.put 9 (pint k)) (fun k => k ≤ l.length) (fun k => l.length - k) 0 (by omega) ?_ ?_
  · have h1 := hlw 0
    exact sb
  · intro k hk
    by_cases hlt : k < l.length
    · have hnx : dParts (l.take (k + 1)) = dParts (l.take k) ++ dPart (l.getD k default) := by rw [take_getD default hlt, dParts_snoc]
      have h1 := hlw (k + 1)
      have ho : outD l (k + 1) = .sl (k * 2 + 2) 1 ((dParts (l.take k)).map pstr ++ [pstr (strOf (numL (l.getD k default).sec)), pstr (strOf (l.getD k default).dat.1)]) (some 9) := by rw [outD, hnx, List.map_append]; rfl
      rw [ho] at h1
      have hplen := putL_len (l.getD k default)
      have hpdat := put_dat (l.getD k default)
      clear hlw hnx hof
      cases k with
      | zero =>
        refine wk ?_
        refine PWops.strM (l := numL (l.getD 0 default).sec) (s := strOf (numL (l.getD 0 default).sec)) rfl rfl rfl rfl rfl rfl rfl rfl rfl rfl rfl rfl rfl (Nat.le_of_ble_eq_true rfl) rfl rfl ?_
        refine wk ?_
        refine PWops.strM (l := (l.getD 0 default).dat.1) (s := strOf (l.getD 0 default).dat.1) rfl rfl rfl rfl rfl rfl rfl rfl rfl rfl rfl rfl rfl (by rw [hplen]; decide) hpdat rfl ?_
        refine wk ?_
        refine loopP (0 + 1) (by omega) (by omega) ?_
        try dsimp only
        rw [ho]
        exact sb
      | succ k =>
        refine wk ?_
        refine PWops.strM (l := numL (l.getD (k + 1) default).sec) (s := strOf (numL (l.getD (k + 1) default).sec)) rfl rfl rfl rfl rfl rfl rfl rfl rfl rfl rfl rfl rfl (Nat.le_of_ble_eq_true rfl) rfl rfl ?_
        refine wk ?_
        refine PWops.strM (l := (l.getD (k + 1) default).dat.1) (s := strOf (l.getD (k + 1) default).dat.1) rfl rfl rfl rfl rfl rfl rfl rfl rfl rfl rfl rfl rfl (by rw [hplen]; decide) hpdat rfl ?_
        refine wk ?_
        refine loopP (k + 1 + 1) (by omega) (by omega) ?_
        try dsimp only
        have e2 : (k + 1) * 2 + 2 = k * 2 + 2 + 2 := by omega
        rw [ho, e2]
        rw [e2] at h1
        exact sb
    · have e : k = l.length := by omega
      subst e
      rw [outD_full l hl0]
      refine wk ?_
      exact ⟨_, presult1 (pres_cell rfl rfl rfl (len_map hlo) (bare_map (f := pbyte) (fun _ => rfl) _)), .agg _ (low_map (fun _ => Low.val _) _), rfl⟩
end Go.Proofs.YtilcpcpmkklobaaDoor

/- The journal: Apply. -/
namespace Go.Proofs.YtilcpcpmkklobaaDoor
set_option linter.unusedSimpArgs false
set_option linter.unusedVariables false
set_option linter.unnecessarySimpa false
open Go.RowKit

theorem outW_byte (s : H8) : ∀ i, ∀ c ∈ outW s i, 0 ≤ c ∧ c < 256
  | 0, c, h => by rw [outW] at h; rw [(List.mem_replicate.1 h).2]; omega
  | i + 1, c, h => by
    rw [outW] at h
    rcases List.mem_or_eq_of_mem_set h with h | rfl
    · exact outW_byte s i c h
    · unfold outV; rw [IntKind.wrap_u8]; omega
def digG (l : List PPut) : List Int := ofS glob0 240 (dParts l)
theorem digG_len (l : List PPut) : (digG l).length = 16 := by rw [digG, ofS, List.length_take, sumS, outW_len]; rfl
theorem digG_ok (l : List PPut) : ∀ x ∈ digG l, 0 ≤ x ∧ x < 256 := fun x hx => outW_byte _ _ x (List.mem_of_mem_take hx)
def fullHead (l : List PPut) : Sec := headSec l.length (digG l) (digG_len l) (digG_ok l)

/-- The disk after four steps. -/
theorem OkD.four {N k : Nat} {D : DM} (h : OkD N k D) {at_ : Int} (h0 : 0 ≤ at_) (h1 : at_ < N) (l : List PPut) (hi : InD N l) (hk : k + l.length + 3 ≤ 100000000) (g : Sec) : OkD N (k + l.length + 3) (D.four at_ l g) ∧ (D.four at_ l g).steps = D.steps + l.length + 3 ∧ (D.four at_ l g).op = [] ∧
    ∀ q : Int, 0 ≤ q → q < N → (D.four at_ l g).read q = if q = at_ then (g, 0) else match lastP q l with | some s => (s, 0) | none => D.read q := by
  have hN : 0 < N := by omega
  obtain ⟨p1, p2⟩ := OkD.puts l h hi (by omega)
  obtain ⟨s1, s2, s3, s4⟩ := p1.sync_ok hN
  obtain ⟨w1, w2, w3⟩ := s2.write h0 h1 (by omega) g
  obtain ⟨t1, t2, t3, t4⟩ := w2.sync_ok hN
  refine ⟨t2, ?_, t4, fun q q0 q1 => ?_⟩
  · rw [DM.four, t3, w3, s3, p2]; omega
  · rw [DM.four, w2.read_sync hN q0 q1, s2.read_write h0 h1 (by omega) g q0 q1, p1.read_sync hN q0 q1, OkD.read_puts l h hi (by omega) q0 q1]
    split
    · rfl
    · cases lastP q l <;> rfl

/-- What the area has lies on the disk. -/
theorem area_in {N : Nat} {at_ most : Int} (l : List PPut) (h0 : 0 ≤ at_) (m0 : 1 ≤ most) (m1 : most ≤ 1024) (hN : at_ + roomI most ≤ N) (hl : (l.length : Int) ≤ most) : (areaJ at_ most l).length = l.length + (numbersI l.length).toNat ∧ ∀ p ∈ areaJ at_ most l, at_ < p.sec ∧ p.sec < at_ + roomI most := by
  have hr : roomI most = 1 + numbersI most + most := by unfold roomI; rw [if_neg (by omega)]
  have hnn : numbersI l.length ≤ numbersI most ∧ 0 ≤ numbersI l.length := by unfold numbersI; omega
  refine ⟨?_, fun p hp => ?_⟩
  · rw [areaJ, List.length_append, areaP_len]; simp only [areaN, List.length_map, List.length_range, rowsT_len]
  · rcases List.mem_append.1 hp with h | h
    · obtain ⟨i, hi, rfl⟩ := List.mem_map.1 h
      have := List.mem_range.1 hi
      simp only
      omega
    · obtain ⟨i, hi, rfl⟩ := List.mem_map.1 h
      have := List.mem_range.1 hi
      rw [rowsT_len] at this
      simp only
      omega

/-- The error of an Apply. -/
def badP (N at_ most : Int) (p : PPut) : Bool := decide (p.sec < 0 ∨ N ≤ p.sec ∨ (at_ ≤ p.sec ∧ p.sec < at_ + roomI most))
def jApE (N at_ most : Int) (l : List PPut) : Int := if most < l.length then 2 else if l.any (badP N at_ most) = true then 1 else if (l.map PPut.sec).Nodup then 0 else 6
def DM.applied (D : DM) (at_ most : Int) (l : List PPut) : DM := (D.four at_ (areaJ at_ most l) (fullHead l)).four at_ l emptyHead
def DM.apply (D : DM) (N at_ most : Int) (l : List PPut) : DM := if jApE N at_ most l = 0 ∧ 0 < l.length then D.applied at_ most l else D
theorem jApE_bad {N at_ most : Int} {l : List PPut} (h : ¬ most < l.length) {i : Nat} (hi : i < l.length) (hb : badP N at_ most (l.getD i default) = true) : jApE N at_ most l = 1 := by
  rw [jApE, if_neg h, if_pos]
  rw [List.any_eq_true]
  refine ⟨l.getD i default, ?_, hb⟩
  rw [List.getD_eq_getElem?_getD, List.getElem?_eq_getElem hi]; exact List.getElem_mem hi
theorem jApE_good {N at_ most : Int} {l : List PPut} (h : ¬ most < l.length) (hb : ∀ i, i < l.length → badP N at_ most (l.getD i default) = false) : jApE N at_ most l = if (l.map PPut.sec).Nodup then 0 else 6 := by
  rw [jApE, if_neg h, if_neg]
  intro e
  obtain ⟨p, hp, h2⟩ := List.any_eq_true.1 e
  obtain ⟨j, hj, rfl⟩ := List.getElem_of_mem hp
  have := hb j hj
  rw [List.getD_eq_getElem?_getD, List.getElem?_eq_getElem hj] at this
  rw [Option.getD_some, h2] at this; cases this
theorem badP_in {N : Nat} {at_ most : Int} {l : List PPut} (hb : ∀ i, i < l.length → badP N at_ most (l.getD i default) = false) : InD N l := by
  intro p hp
  obtain ⟨j, hj, rfl⟩ := List.getElem_of_mem hp
  have := hb j hj
  rw [List.getD_eq_getElem?_getD, List.getElem?_eq_getElem hj, Option.getD_some] at this
  simp only [badP, decide_eq_false_iff_not, not_or] at this
  omega

/-- The sectors that were met. -/
def mE (x : Nat × Int) : Nat × PV × PV := (x.1, pint x.2, pbool true)
def metL (l : List PPut) (i : Nat) : List (Nat × Int) := (List.range i).map fun j => (j, (l.getD j default).sec)
theorem metL_succ (l : List PPut) (i : Nat) : metL l (i + 1) = metL l i ++ [(i, (l.getD i default).sec)] := by simp [metL, List.range_succ]
theorem metL_secs (l : List PPut) : ∀ i, i ≤ l.length → (metL l i).map (·.2) = (l.take i).map PPut.sec
  | 0, _ => rfl
  | i + 1, h => by rw [metL_succ, take_getD default (by omega), List.map_append, List.map_append, metL_secs l i (by omega)]; rfl
theorem met_find (z : Int) : ∀ (L : List (Nat × Int)) (n : Nat), (z ∉ L.map (·.2) ∧ mfind .int (.int .i64 z) (L.map mE) n = some none) ∨ (z ∈ L.map (·.2) ∧ ∃ j s, mfind .int (.int .i64 z) (L.map mE) n = some (some (n + j)) ∧ (L.map mE)[j]? = some (s, pint z, pbool true))
  | [], n => .inl ⟨by simp, rfl⟩
  | (s, k) :: L, n => by
    by_cases h : z = k
    · subst h
      refine .inr ⟨by simp, 0, s, ?_, rfl⟩
      simp [mE, pint, mfind, veq]
    · have e : (z == k) = false := by simpa using h
      have h1 : mfind .int (.int .i64 z) (((s, k) :: L).map mE) n = mfind .int (.int .i64 z) (L.map mE) (n + 1) := by simp [mE, pint, mfind, veq, e]
      rw [h1]
      rcases met_find z L (n + 1) with ⟨a, b⟩ | ⟨a, j, s', b, c⟩
      · exact .inl ⟨by simp only [List.map_cons, List.mem_cons, not_or]; exact ⟨h, a⟩, b⟩
      · exact .inr ⟨by simp only [List.map_cons, List.mem_cons]; exact .inr a, j + 1, s', by rw [b]; congr 2; omega, c⟩
theorem met_get (z : Int) (L : List (Nat × Int)) {ki ei : TyI} (hk : ki.kind = .int .i64) (he : zeroPV ei = some (pbool false)) : mget ki ei (L.map mE) (.int .i64 z) = some (pbool (decide (z ∈ L.map (·.2))), decide (z ∈ L.map (·.2))) := by
  unfold mget
  simp only [hk, keyOK, skT, decide_true, if_true]
  rcases met_find z L 0 with ⟨a, b⟩ | ⟨a, j, s, b, c⟩
  · rw [b, decide_eq_false a]; simp [he]; rfl
  · rw [Nat.zero_add] at b
    rw [b, decide_eq_true a]; simp only [c]; rfl
theorem met_put (z : Int) (L : List (Nat × Int)) {ki : TyI} (hk : ki.kind = .int .i64) (hz : z ∉ L.map (·.2)) (cl : Nat) : mput ki (L.map mE) cl (.int .i64 z) (pbool true) = some (.map ((L ++ [(cl, z)]).map mE) (cl + 1)) := by
  unfold mput
  simp only [hk, keyOK, skT, decide_true, if_true]
  rcases met_find z L 0 with ⟨a, b⟩ | ⟨a, j, s, b, c⟩
  · rw [b, List.map_append]; rfl
  · exact absurd a hz
theorem met_low (L : List (Nat × Int)) : ∀ e ∈ L.map mE, Low e.2.1 ∧ Low e.2.2 := by
  intro e he
  obtain ⟨x, -, rfl⟩ := List.mem_map.1 he
  exact ⟨.val _, .val _⟩

set_option maxRecDepth 10000 in
set_option maxHeartbeats 4000000 in
theorem jc_apply1 (at_ most : Int) {N k : Nat} {D : DM} (h : OkD N k D) (h0 : 0 ≤ at_) (m0 : 1 ≤ most) (m1 : most ≤ 1024) (hN : at_ + roomI most ≤ N) (hNN : N ≤ 100000000) (l : List PPut) (hl : l.length ≤ 100000000) (hk : k + 10000 ≤ 100000000) : HCalls Tryd.prog 13 [.ptr 1000004 0, pputs l] (jG 1000001 1000002 1000003 1000004 at_ most D) (dMs 1000003 D) (pint (jApE N at_ most l)) (jG 1000001 1000002 1000003 1000004 at_ most (D.apply N at_ most l)) (dMs 1000003 (D.apply N at_ most l)) := by
  have hll := low_pputs l
  have c1 := dC_low D
  have c2 := dM_low D
  refine hcalls_of_pw typeTab_ok Tryd.func13 rfl rfl (by simp [PV.ownB, pputs]) (Nat.le_of_ble_eq_true rfl) (by simp [ResIds, jG, dG, dMs]) (by simp [ResIds, jG, dG, dMs]) (by exact hok0) ?_
  have hap : ∀ e, jApE N at_ most l = e → e ≠ 0 → D.apply N at_ most l = D := fun e h1 h2 => by rw [DM.apply, if_neg]; rw [h1]; exact fun h => h2 h.1
  have hrm := pw_room most
  have hsz := dc_Size D 1000001 1000002 1000003 (by decide)
  have hdl := h.len
  rw [hdl] at hsz
  have hrr : 0 ≤ roomI most ∧ roomI most ≤ 2000 := by unfold roomI numbersI; rw [if_neg (by omega)]; omega
  by_cases hmost : most < l.length
  · have ea : jApE N at_ most l = 2 := by rw [jApE, if_pos hmost]
    rw [ea, hap 2 ea (by decide)]
    refine wk ?_
    exact RetH.mk rfl (Weak.refl _) ⟨⟨_, rfl, WeakL.refl _⟩, ⟨_, rfl, WeakL.refl _⟩, ⟨_, rfl, WeakL.refl _⟩, trivial⟩ ⟨⟨rfl, rfl⟩, trivial⟩
  · refine wk ?_
    refine PW.loop (fun i : Nat => (((((((((bot.setb 1000004 (jB 1000001 at_ most)).setb 1000001 (dB 1000002 1000003 D)).setb 1000002 (dC D)).setm 1000003 (dM D)).put 0 (.ptr 1000004 0)).put 1 (pputs l)).put 4 (pint 0)).put 18 (pputs l)).put 19 (pint l.length)).put 20 (pint i)) (fun i => i ≤ l.length ∧ ∀ j, j < i → badP N at_ most (l.getD j default) = false) (fun i => l.length - i) 0 ⟨by omega, fun j hj => by omega⟩ ?_ ?_
    · exact sb
    · intro i ⟨hi, hgood⟩
      by_cases hlt : i < l.length
      · by_cases hb : badP N at_ most (l.getD i default) = true
        · have ea := jApE_bad hmost hlt hb
          rw [ea, hap 1 ea (by decide)]
          simp only [badP, decide_eq_true_eq] at hb
          generalize roomI most = R at *
          by_cases b1 : (l.getD i default).sec < 0
          · refine wk ?_
            exact RetH.mk rfl (Weak.refl _) ⟨⟨_, rfl, WeakL.refl _⟩, ⟨_, rfl, WeakL.refl _⟩, ⟨_, rfl, WeakL.refl _⟩, trivial⟩ ⟨⟨rfl, rfl⟩, trivial⟩
          · by_cases b2 : (N : Int) ≤ (l.getD i default).sec
            · refine wk ?_
              exact RetH.mk rfl (Weak.refl _) ⟨⟨_, rfl, WeakL.refl _⟩, ⟨_, rfl, WeakL.refl _⟩, ⟨_, rfl, WeakL.refl _⟩, trivial⟩ ⟨⟨rfl, rfl⟩, trivial⟩
            · have b3 : at_ ≤ (l.getD i default).sec := by omega
              have b4 : (l.getD i default).sec < at_ + R := by omega
              refine wk ?_
              exact RetH.mk rfl (Weak.refl _) ⟨⟨_, rfl, WeakL.refl _⟩, ⟨_, rfl, WeakL.refl _⟩, ⟨_, rfl, WeakL.refl _⟩, trivial⟩ ⟨⟨rfl, rfl⟩, trivial⟩
        · have hb' : badP N at_ most (l.getD i default) = false := by simpa using hb
          have hg2 : ∀ j, j < i + 1 → badP N at_ most (l.getD j default) = false := by
            intro j hj
            by_cases e : j = i
            · subst e; exact hb'
            · exact hgood j (by omega)
          simp only [badP, decide_eq_false_iff_not, not_or] at hb'
          obtain ⟨b1, b2, b3⟩ := hb'
          clear hgood hap hb
          by_cases b4 : at_ ≤ (l.getD i default).sec
          · have b5 : ¬ (l.getD i default).sec < at_ + roomI most := fun e => b3 ⟨b4, e⟩
            clear b3
            generalize roomI most = R at *
            refine wk ?_
            refine loopP (i + 1) ⟨by omega, hg2⟩ (by omega) ?_
            exact sb
          · clear b3
            generalize roomI most = R at *
            refine wk ?_
            refine loopP (i + 1) ⟨by omega, hg2⟩ (by omega) ?_
            exact sb
      · have e : i = l.length := by omega
        subst e
        have eg := jApE_good hmost hgood
        have hin := badP_in hgood
        clear hgood
        refine wk ?_
        refine PWops.mkM rfl rfl rfl rfl ?_
        refine wk ?_
        have hmd : ∀ i, i ≤ l.length → (metL l i).length = i := fun i _ => by simp [metL]
        refine PW.loop (fun i : Nat => (((((((((((bot.setb 1000004 (jB 1000001 at_ most)).setb 1000001 (dB 1000002 1000003 D)).setb 1000002 (dC D)).setm 1000003 (dM D)).setm 9000 (.map ((metL l i).map mE) i)).put 0 (.ptr 1000004 0)).put 1 (pputs l)).put 4 (pint 0)).put 7 (.mref 9000)).put 63 (pputs l)).put 64 (pint l.length)).put 65 (pint i)) (fun i => i ≤ l.length ∧ ((l.take i).map PPut.sec).Nodup) (fun i => l.length - i) 0 ⟨by omega, by simp⟩ ?_ ?_
        · have m1 := met_low (metL l 0)
          exact sb
        · intro i ⟨hi, hnd⟩
          by_cases hlt : i < l.length
          · have hms := metL_secs l i hi
            by_cases hin2 : (l.getD i default).sec ∈ (metL l i).map (·.2)
            · have ea : jApE N at_ most l = 6 := by
                rw [eg, if_neg]
                intro hn
                have h2 : l.take (i + 1) = l.take i ++ [l.getD i default] := take_getD default hlt
                have h3 : ((l.take (i + 1)).map PPut.sec).Nodup := by
                  rw [List.map_take]; exact hn.sublist (List.take_sublist _ _)
                rw [h2, List.map_append, List.nodup_append] at h3
                rw [hms] at hin2
                exact h3.2.2 _ hin2 _ (by simp) rfl
              rw [ea, hap 6 ea (by decide)]
              refine wk ?_
              refine PWops.lkp rfl rfl rfl rfl rfl rfl rfl rfl rfl rfl rfl (met_get _ _ rfl rfl) ?_
              rw [decide_eq_true hin2]
              refine wk ?_
              exact RetH.mk rfl (Weak.refl _) ⟨⟨_, rfl, WeakL.refl _⟩, ⟨_, rfl, WeakL.refl _⟩, ⟨_, rfl, WeakL.refl _⟩, trivial⟩ ⟨⟨rfl, rfl⟩, trivial⟩
            · have hms2 := metL_succ l i
              have m1 := met_low (metL l (i + 1))
              have hnd2 : ((l.take (i + 1)).map PPut.sec).Nodup := by
                rw [take_getD default hlt, List.map_append, List.nodup_append]
                refine ⟨hnd, by simp, fun a ha b hb => ?_⟩
                simp at hb
                subst hb
                rintro rfl
                rw [hms] at hin2
                exact hin2 (by simpa using ha)
              have hput := met_put (l.getD i default).sec (metL l i) (ki := ⟨1, false, .int .i64, [.val (.int .i64 0)], []⟩) rfl hin2 i
              rw [← hms2] at hput
              refine wk ?_
              refine PWops.lkp rfl rfl rfl rfl rfl rfl rfl rfl rfl rfl rfl (met_get _ _ rfl rfl) ?_
              rw [decide_eq_false hin2]
              refine wk ?_
              refine PWops.mput rfl rfl rfl rfl rfl rfl rfl rfl rfl rfl rfl rfl hput ?_
              refine wk ?_
              refine loopP (i + 1) ⟨by omega, hnd2⟩ (by omega) ?_
              exact sb
          · have e : i = l.length := by omega
            subst e
            rw [List.take_length] at hnd
            have ea : jApE N at_ most l = 0 := by rw [eg, if_pos hnd]
            rw [ea]
            have mq := met_low (metL l l.length)
            by_cases hl0 : l.length = 0
            · have hdd : D.apply N at_ most l = D := by rw [DM.apply, if_neg]; omega
              rw [hdd]
              refine wk ?_
              exact RetH.mk rfl (Weak.refl _) ⟨⟨_, rfl, WeakL.refl _⟩, ⟨_, rfl, WeakL.refl _⟩, ⟨_, rfl, WeakL.refl _⟩, trivial⟩ ⟨⟨rfl, rfl⟩, trivial⟩
            · have hdd : D.apply N at_ most l = D.applied at_ most l := by rw [DM.apply, if_pos ⟨ea, by omega⟩]
              rw [hdd]
              have hle : (l.length : Int) ≤ most := by omega
              have hrn : roomI most = 1 + numbersI most + most := by unfold roomI; rw [if_neg (by omega)]
              have hnb : numbersI l.length ≤ 64 ∧ 0 ≤ numbersI l.length ∧ 0 ≤ numbersI most := by unfold numbersI; omega
              obtain ⟨al, ai⟩ := area_in l h0 m0 m1 hN hle
              have hai : InD N (areaJ at_ most l) := fun p hp => by have := ai p hp; omega
              obtain ⟨f1, -, -, -⟩ := h.four h0 (by omega) (areaJ at_ most l) hai (by omega) (fullHead l)
              have harea := jc_area at_ most D l h0 (by omega) m0 m1 (by omega) (by omega) 1000001 1000002 1000003 1000004 (by decide)
              have hput := jc_put at_ most D (areaJ at_ most l) 1000001 1000002 1000003 1000004 900005 900006 (by decide)
              have hsync := jc_sync at_ most D 1000001 1000002 1000003 1000004 (by decide)
              have hdig := pw_digest l (by omega) (by omega)
              have hhead := jc_head at_ most D l.length (digG l) (digG_len l) 1000001 1000002 1000003 1000004 900007 900008 900009 (by decide)
              have hall := jc_all most h at_ l.length h0 (by omega) (by omega) (by omega) (digG l) (digG_len l) (digG_ok l) (areaJ at_ most l) hai (by omega) (by omega) 1000001 1000002 1000003 1000004 900005 900006 900007 900008 900009 (by decide)
              have hfin := jc_finish most f1 at_ h0 (by omega) l hin (by omega) (by omega) 1000001 1000002 1000003 1000004 (by decide)
              have dl := digG_len l
              rw [show headSec l.length (digG l) (digG_len l) (digG_ok l) = fullHead l from rfl] at hall
              rw [show ofS glob0 240 (dParts l) = digG l from rfl] at hdig
              have c3 := dC_low (D.four at_ (areaJ at_ most l) (fullHead l))
              have c4 := dM_low (D.four at_ (areaJ at_ most l) (fullHead l))
              rw [DM.applied]
              generalize digG l = G at *
              generalize areaJ at_ most l = A at *
              generalize hD1 : D.four at_ A (fullHead l) = D1 at *
              generalize D1.four at_ l emptyHead = D2 at *
              clear hD1 f1 hai ai al hin hsz hrm eg hap mq hll
              refine wk ?_
              exact RetH.mk rfl (Weak.refl _) ⟨⟨_, rfl, WeakL.refl _⟩, ⟨_, rfl, WeakL.refl _⟩, ⟨_, rfl, WeakL.refl _⟩, trivial⟩ ⟨⟨rfl, rfl⟩, trivial⟩
theorem jc_apply (at_ most : Int) {N k : Nat} {D : DM} (h : OkD N k D) (h0 : 0 ≤ at_) (m0 : 1 ≤ most) (m1 : most ≤ 1024) (hN : at_ + roomI most ≤ N) (hNN : N ≤ 100000000) (l : List PPut) (hl : l.length ≤ 100000000) (hk : k + 10000 ≤ 100000000) (d c m j : Nat) (hd : ([d, c, m, j] : List Nat).Nodup) : HCalls Tryd.prog 13 [.ptr j 0, pputs l] (jG d c m j at_ most D) (dMs m D) (pint (jApE N at_ most l)) (jG d c m j at_ most (D.apply N at_ most l)) (dMs m (D.apply N at_ most l)) := by
  refine (jc_apply1 at_ most h h0 m0 m1 hN hNN l hl hk).at (ids4 d c m j) hd (by simp [ResIds, jG, dG, dMs, ids4]) (by simp [jG, dG]) (by simp [dMs]) ?_ ?_ ?_ ?_ ?_ ?_ <;> exact ren0
end Go.Proofs.YtilcpcpmkklobaaDoor

/- The journal whose disk fails: the calls of its disk, one after the other. -/
namespace Go.Proofs.YtilcpcpmkklobaaDoor
set_option linter.unusedSimpArgs false
set_option linter.unusedVariables false
set_option linter.unnecessarySimpa false
open Go.RowKit

def wops (l : List PPut) : List DOp := l.map fun p => .w p.sec p.dat
/-- The four steps of half an Apply. -/
def fourO (at_ : Int) (l : List PPut) (g : Sec) : List DOp := wops l ++ [.sync, .w at_ g, .sync]
def headO (at_ : Int) : List DOp := [.w at_ emptyHead, .sync]
def applyO (at_ most : Int) (l : List PPut) : List DOp := fourO at_ (areaJ at_ most l) (fullHead l) ++ fourO at_ l emptyHead
theorem wops_in {n : Nat} {l : List PPut} (h : InD n l) : ∀ o ∈ wops l, o.inD n := by
  intro o ho
  obtain ⟨p, hp, rfl⟩ := List.mem_map.1 ho
  exact h p hp
theorem wops_len (l : List PPut) : (wops l).length = l.length := List.length_map ..
theorem fourO_len (at_ : Int) (l : List PPut) (g : Sec) : (fourO at_ l g).length = l.length + 3 := by rw [fourO, List.length_append, wops_len]; rfl
theorem fourO_in {n : Nat} {at_ : Int} (h0 : 0 ≤ at_) (h1 : at_ < n) {l : List PPut} (h : InD n l) (g : Sec) : ∀ o ∈ fourO at_ l g, o.inD n := by
  intro o ho
  have hn : 0 < n := by omega
  rcases List.mem_append.1 ho with ho | ho
  · exact wops_in h o ho
  · simp only [List.mem_cons, List.not_mem_nil, or_false] at ho
    rcases ho with rfl | rfl | rfl
    · exact hn
    · exact ⟨h0, h1⟩
    · exact hn
theorem fourO_take (at_ : Int) (l : List PPut) (g : Sec) (m : Nat) : (fourO at_ l g).take m = wops (l.take m) ∨ (fourO at_ l g).take m = wops l ++ [.sync] ∨ (fourO at_ l g).take m = wops l ++ [.sync, .w at_ g] ∨ (fourO at_ l g).take m = fourO at_ l g := by
  by_cases h : m ≤ l.length
  · left
    rw [fourO, List.take_append_of_le_length (by rw [wops_len]; exact h), wops, wops, List.map_take]
  · right
    have e : (fourO at_ l g).take m = wops l ++ ([.sync, .w at_ g, .sync] : List DOp).take (m - l.length) := by
      rw [fourO, List.take_append, wops_len, List.take_of_length_le (by rw [wops_len]; omega)]
    obtain ⟨j, hj⟩ : ∃ j, m - l.length = j + 1 := ⟨m - l.length - 1, by omega⟩
    rw [e, hj]
    match j with
    | 0 => exact .inl rfl
    | 1 => exact .inr (.inl rfl)
    | j + 2 => exact .inr (.inr (by rw [List.take_of_length_le (by simp)]; rfl))
end Go.Proofs.YtilcpcpmkklobaaDoor

/- The journal: it is opened. -/
namespace Go.Proofs.YtilcpcpmkklobaaDoor
set_option linter.unusedSimpArgs false
set_option linter.unusedVariables false
set_option linter.unnecessarySimpa false
open Go.RowKit

theorem ren_tup {ρ : Nat → Nat} {S : Nat → Prop} {ps qs : List PV} (h : RenL ρ S ps qs) : Ren ρ S (.tup ps) (.tup qs) := .tup _ _ h.1 h.2
/-- Two steps: the head, and all is made durable. -/
def steps2 (c d e f : Nat) : PV := .sl 2 1 [headF c d e, syncF f] none
theorem steps2_ren {ρ : Nat → Nat} {S : Nat → Prop} {c d e f : Nat} (h3 : S c) (h4 : S d) (h5 : S e) (h6 : S f) : Ren ρ S (steps2 c d e f) (steps2 (ρ c) (ρ d) (ρ e) (ρ f)) := by
  have k2 : RenL ρ S [.ptr f 0] [.ptr (ρ f) 0] := .cons (.ptr _ _ h6) .nil
  have k3 : RenL ρ S [.ptr d 0, .ptr e 0, .ptr c 0] [.ptr (ρ d) 0, .ptr (ρ e) 0, .ptr (ρ c) 0] := .cons (.ptr _ _ h4) (.cons (.ptr _ _ h5) (.cons (.ptr _ _ h3) .nil))
  have k : RenL ρ S [headF c d e, syncF f] [headF (ρ c) (ρ d) (ρ e), syncF (ρ f)] := .cons (.fn _ _ _ k3.1 k3.2) (.cons (.fn _ _ _ k2.1 k2.2) .nil)
  exact .sl _ _ _ _ k.1 k.2
def DM.two (D : DM) (at_ : Int) (g : Sec) : DM := (D.write at_ g).2.sync.2
def DM.twoI (D : DM) (at_ : Int) (g : Sec) : Nat → DM
  | 0 => D
  | 1 => (D.write at_ g).2
  | _ => D.two at_ g
theorem OkD.two {N k : Nat} {D : DM} (h : OkD N k D) {at_ : Int} (h0 : 0 ≤ at_) (h1 : at_ < N) (hk : k + 3 ≤ 100000000) (g : Sec) : OkD N (k + 3) (D.two at_ g) ∧ (D.two at_ g).op = [] ∧ ∀ q : Int, 0 ≤ q → q < N → (D.two at_ g).read q = if q = at_ then (g, 0) else D.read q := by
  have hN : 0 < N := by omega
  obtain ⟨w1, w2, w3⟩ := h.write h0 h1 (by omega) g
  obtain ⟨t1, t2, t3, t4⟩ := w2.sync_ok hN
  exact ⟨t2.mono (by omega), t4, fun q q0 q1 => by rw [DM.two, w2.read_sync hN q0 q1, h.read_write h0 h1 (by omega) g q0 q1]⟩

set_option maxRecDepth 10000 in
set_option maxHeartbeats 2000000 in
theorem jc_all21 (most : Int) {N k : Nat} {D : DM} (h : OkD N k D) (at_ n : Int) (h0 : 0 ≤ at_) (h1 : at_ < N) (n0 : 0 ≤ n) (n1 : n < 65536) (G : List Int) (hG : G.length = 16) (hr : ∀ x ∈ G, 0 ≤ x ∧ x < 256) (hk : k + 3 ≤ 100000000) (hNN : N ≤ 1000000000) : HCalls Tryd.prog 28 [steps2 1000005 1000006 1000007 1000001]
    ((1000005, [.ptr 1000004 0]) :: (1000006, [pint n]) :: (1000007, G.map pbyte) :: jG 1000001 1000002 1000003 1000004 at_ most D) (dMs 1000003 D) (pint 0)
    ((1000005, [.ptr 1000004 0]) :: (1000006, [pint n]) :: (1000007, G.map pbyte) :: jG 1000001 1000002 1000003 1000004 at_ most (D.two at_ (headSec n G hG hr))) (dMs 1000003 (D.two at_ (headSec n G hG hr))) := by
  have hN : 0 < N := by omega
  obtain ⟨w1, w2, -⟩ := h.write h0 h1 (by omega) (headSec n G hG hr)
  obtain ⟨t1, t2, -, -⟩ := w2.sync_ok hN
  have hhead := jc_headS h at_ most n h0 h1 (by omega) n0 n1 G hG hr 1000001 1000002 1000003 1000004 1000005 1000006 1000007 (by decide)
  have hlG : ∀ c ∈ G.map pbyte, Low c := low_map (fun _ => Low.val _) _
  have c1 := dC_low D
  have c2 := dM_low D
  have c3 := dC_low (D.two at_ (headSec n G hG hr))
  have c4 := dM_low (D.two at_ (headSec n G hG hr))
  have hoG := ows_pb G
  refine hcalls_of_pw typeTab_ok Tryd.func28 rfl rfl (by simp [PV.ownB, steps2]) (Nat.le_of_ble_eq_true rfl) (by simp [ResIds, jG, dG, dMs]) (by simp [ResIds, jG, dG, dMs]) (by exact hok0) ?_
  have hy2 := dc_Sync _ ⟨w2.steps.1, by have := w2.steps; omega, by rw [w2.after]; omega⟩ (by rw [w2.after]; omega) (by rw [w2.len]; omega) (by rw [w2.len]; exact w2.op) 1000001 1000002 1000003 (by decide)
  rw [t1] at hy2
  have f1 := fun i => dC_low (D.twoI at_ (headSec n G hG hr) i)
  have f2 := fun i => dM_low (D.twoI at_ (headSec n G hG hr) i)
  refine wk ?_
  refine PW.loop (fun i : Nat => (((((((((bot.setb 1000005 [.ptr 1000004 0]).setb 1000006 [pint n]).setb 1000007 (G.map pbyte)).setb 1000004 (jB 1000001 at_ most)).setb 1000001 (dB 1000002 1000003 (D.twoI at_ (headSec n G hG hr) i))).setb 1000002 (dC (D.twoI at_ (headSec n G hG hr) i))).setm 1000003 (dM (D.twoI at_ (headSec n G hG hr) i))).put 6 (steps2 1000005 1000006 1000007 1000001)).put 7 (pint 2)).put 8 (pint i)) (fun i => i ≤ 2) (fun i => 2 - i) 0 (by omega) ?_ ?_
  · have g1 := f1 0
    have g2 := f2 0
    exact sb2
  · intro i hi
    have hq : i = 0 ∨ i = 1 ∨ i = 2 := by omega
    rcases hq with rfl | rfl | rfl
    · have g1 := f1 1
      have g2 := f2 1
      rw [show D.twoI at_ (headSec n G hG hr) 0 = D from rfl]
      refine wk ?_
      refine loopP 1 (by omega) (by omega) ?_
      rw [show D.twoI at_ (headSec n G hG hr) 1 = (D.write at_ (headSec n G hG hr)).2 from rfl] at g1 g2 ⊢
      exact sb2
    · have g1 := f1 2
      have g2 := f2 2
      rw [show D.twoI at_ (headSec n G hG hr) 1 = (D.write at_ (headSec n G hG hr)).2 from rfl]
      refine wk ?_
      refine loopP 2 (by omega) (by omega) ?_
      rw [show D.twoI at_ (headSec n G hG hr) 2 = D.two at_ (headSec n G hG hr) from rfl] at g1 g2 ⊢
      exact sb2
    · refine wk ?_
      exact RetH.mk rfl (Weak.refl _) ⟨⟨_, rfl, WeakL.refl _⟩, ⟨_, rfl, WeakL.refl _⟩, ⟨_, rfl, WeakL.refl _⟩, ⟨_, rfl, WeakL.refl _⟩, ⟨_, rfl, WeakL.refl _⟩, ⟨_, rfl, WeakL.refl _⟩, trivial⟩ ⟨⟨rfl, rfl⟩, trivial⟩
theorem jc_all2 (most : Int) {N k : Nat} {D : DM} (h : OkD N k D) (at_ n : Int) (h0 : 0 ≤ at_) (h1 : at_ < N) (n0 : 0 ≤ n) (n1 : n < 65536) (G : List Int) (hG : G.length = 16) (hr : ∀ x ∈ G, 0 ≤ x ∧ x < 256) (hk : k + 3 ≤ 100000000) (hNN : N ≤ 1000000000) (d c m j b2 b3 b4 : Nat) (hd : ([d, c, m, j, b2, b3, b4] : List Nat).Nodup) : HCalls Tryd.prog 28 [steps2 b2 b3 b4 d]
    ((b2, [.ptr j 0]) :: (b3, [pint n]) :: (b4, G.map pbyte) :: jG d c m j at_ most D) (dMs m D) (pint 0)
    ((b2, [.ptr j 0]) :: (b3, [pint n]) :: (b4, G.map pbyte) :: jG d c m j at_ most (D.two at_ (headSec n G hG hr))) (dMs m (D.two at_ (headSec n G hG hr))) := by
  have hl : ∀ c ∈ G.map pbyte, Low c := low_map (fun _ => Low.val _) _
  refine (jc_all21 most h at_ n h0 h1 n0 n1 G hG hr hk hNN).at (ids4 d c m j ++ [(1000005, b2), (1000006, b3), (1000007, b4)]) (by simpa [ids4] using hd) (by simp [ResIds, jG, dG, dMs, ids4]) (by simp [jG, dG]) (by simp [dMs]) ?_ ?_ ?_ ?_ ?_ ?_
  · exact .cons (steps2_ren (by first | simp [ResIds, dG, dMs, jG] | simp [ResIds, dG, dMs, crG, crM] | simp [ResIds, dG, dMs]) (by first | simp [ResIds, dG, dMs, jG] | simp [ResIds, dG, dMs, crG, crM] | simp [ResIds, dG, dMs]) (by first | simp [ResIds, dG, dMs, jG] | simp [ResIds, dG, dMs, crG, crM] | simp [ResIds, dG, dMs]) (by first | simp [ResIds, dG, dMs, jG] | simp [ResIds, dG, dMs, crG, crM] | simp [ResIds, dG, dMs])) .nil
  all_goals exact ren0

/-- The disk after it is opened. -/
def DM.opened (D : DM) (at_ : Int) : DM := if (D.read at_).2 = 221 then D.two at_ emptyHead else D
/-- The head is rotten, or empty. -/
def HeadOK (D : DM) (at_ : Int) : Prop := D.read at_ = (zeroSec, 221) ∨ ((D.read at_).2 = 0 ∧ (D.read at_).1.1.getD 0 0 = 0 ∧ (D.read at_).1.1.getD 1 0 = 0)
theorem secL_get (s : Sec) (j : Nat) (h : j < 64) : (secL s)[j]? = some (pbyte (s.1.getD j 0)) := by
  rw [secL, List.getElem?_map, List.getD_eq_getElem?_getD, List.getElem?_eq_getElem (by rw [s.2.1]; exact h)]; rfl

set_option maxRecDepth 10000 in
set_option maxHeartbeats 2000000 in
theorem jc_recover1 (most : Int) {N k : Nat} {D : DM} (h : OkD N k D) (at_ : Int) (h0 : 0 ≤ at_) (h1 : at_ < N) (hk : k + 3 ≤ 100000000) (hNN : N ≤ 1000000000) (hh : HeadOK D at_) : HCalls Tryd.prog 27 [.ptr 1000004 0] (jG 1000001 1000002 1000003 1000004 at_ most D) (dMs 1000003 D) (pint 0) (jG 1000001 1000002 1000003 1000004 at_ most (D.opened at_)) (dMs 1000003 (D.opened at_)) := by
  have c1 := dC_low D
  have c2 := dM_low D
  refine hcalls_of_pw typeTab_ok Tryd.func27 rfl rfl (by simp [PV.ownB]) (Nat.le_of_ble_eq_true rfl) (by simp [ResIds, jG, dG, dMs]) (by simp [ResIds, jG, dG, dMs]) (by exact hok0) ?_
  have hread := dc_Read D at_ (by have := h.len; omega) (fun e he => by have := h.room e he; omega) 1000001 1000002 1000003 (by decide)
  rcases hh with hr | ⟨he, hs0, hs1⟩
  · rw [hr] at hread
    have e1 : D.opened at_ = D.two at_ emptyHead := by rw [DM.opened, hr]; rfl
    rw [e1]
    have hsync := jc_sync at_ most D 1000001 1000002 1000003 1000004 (by decide)
    have hhead := jc_head at_ most D 0 zeroDig rfl 1000001 1000002 1000003 1000004 900007 900008 900009 (by decide)
    have hall := jc_all2 most h at_ 0 h0 h1 (by decide) (by decide) zeroDig rfl zeroDig_ok hk hNN 1000001 1000002 1000003 1000004 900007 900008 900009 (by decide)
    rw [show headSec 0 zeroDig rfl zeroDig_ok = emptyHead from rfl] at hall
    generalize D.two at_ emptyHead = D2 at *
    refine wk ?_
    exact RetH.mk rfl (Weak.refl _) ⟨⟨_, rfl, WeakL.refl _⟩, ⟨_, rfl, WeakL.refl _⟩, ⟨_, rfl, WeakL.refl _⟩, trivial⟩ ⟨⟨rfl, rfl⟩, trivial⟩
  · have e1 : D.opened at_ = D := by rw [DM.opened, he]; rfl
    rw [e1]
    rw [he] at hread
    generalize (D.read at_).1 = s at *
    have g0 : (secL s)[0]? = some (pbyte 0) := by rw [secL_get s 0 (by decide), hs0]
    have g1 : (secL s)[1]? = some (pbyte 0) := by rw [secL_get s 1 (by decide), hs1]
    refine wk ?_
    refine PWops.ldB (c := pbyte 0) rfl rfl rfl rfl rfl rfl rfl rfl g0 rfl ?_
    refine wk ?_
    refine PWops.ldB (c := pbyte 0) rfl rfl rfl rfl rfl rfl rfl rfl g1 rfl ?_
    refine wk ?_
    exact RetH.mk rfl (Weak.refl _) ⟨⟨_, rfl, WeakL.refl _⟩, ⟨_, rfl, WeakL.refl _⟩, ⟨_, rfl, WeakL.refl _⟩, trivial⟩ ⟨⟨rfl, rfl⟩, trivial⟩
theorem jc_recover (most : Int) {N k : Nat} {D : DM} (h : OkD N k D) (at_ : Int) (h0 : 0 ≤ at_) (h1 : at_ < N) (hk : k + 3 ≤ 100000000) (hNN : N ≤ 1000000000) (hh : HeadOK D at_) (d c m j : Nat) (hd : ([d, c, m, j] : List Nat).Nodup) : HCalls Tryd.prog 27 [.ptr j 0] (jG d c m j at_ most D) (dMs m D) (pint 0) (jG d c m j at_ most (D.opened at_)) (dMs m (D.opened at_)) := by
  refine (jc_recover1 most h at_ h0 h1 hk hNN hh).at (ids4 d c m j) hd (by simp [ResIds, jG, dG, dMs, ids4]) (by simp [jG, dG]) (by simp [dMs]) ?_ ?_ ?_ ?_ ?_ ?_ <;> exact ren0

/-- Whether an area lies on a disk. -/
def liesB (N at_ most : Int) : Bool := decide (1 ≤ most ∧ most ≤ 1024 ∧ 0 ≤ at_ ∧ at_ + roomI most ≤ N)
set_option maxRecDepth 10000 in
set_option maxHeartbeats 2000000 in
theorem jc_openE1 (at_ most : Int) {N k : Nat} {D : DM} (h : OkD N k D) (hNN : N ≤ 1000000000) (hb : liesB N at_ most = false) : HCalls Tryd.prog 11 [.ptr 1000001 0, pint at_, pint most] (dG 1000001 1000002 1000003 D) (dMs 1000003 D) (.tup [.val (.pointer none), pint 1]) (dG 1000001 1000002 1000003 D) (dMs 1000003 D) := by
  have c1 := dC_low D
  have c2 := dM_low D
  refine hcalls_of_pw typeTab_ok Tryd.func11 rfl rfl (by simp [PV.ownB, pint]) (Nat.le_of_ble_eq_true rfl) (by simp [ResIds, dG, dMs]) (by simp [ResIds, dG, dMs]) (by exact hok0) ?_
  have hrm := pw_room most
  have hsz := dc_Size D 1000001 1000002 1000003 (by decide)
  rw [h.len] at hsz
  simp only [liesB, decide_eq_false_iff_not] at hb
  have hrr : 0 ≤ roomI most ∧ roomI most ≤ 2000 ∧ (roomI most = 0 ↔ (most < 1 ∨ 1024 < most)) := by unfold roomI numbersI; split <;> omega
  generalize roomI most = R at *
  by_cases r0 : R = 0
  · refine wk ?_
    exact RetH.mk rfl (Weak.refl _) ⟨⟨_, rfl, WeakL.refl _⟩, ⟨_, rfl, WeakL.refl _⟩, trivial⟩ ⟨⟨rfl, rfl⟩, trivial⟩
  · by_cases a0 : at_ < 0
    · refine wk ?_
      exact RetH.mk rfl (Weak.refl _) ⟨⟨_, rfl, WeakL.refl _⟩, ⟨_, rfl, WeakL.refl _⟩, trivial⟩ ⟨⟨rfl, rfl⟩, trivial⟩
    · have a1 : (N : Int) - R < at_ := by omega
      refine wk ?_
      exact RetH.mk rfl (Weak.refl _) ⟨⟨_, rfl, WeakL.refl _⟩, ⟨_, rfl, WeakL.refl _⟩, trivial⟩ ⟨⟨rfl, rfl⟩, trivial⟩
set_option maxRecDepth 10000 in
set_option maxHeartbeats 2000000 in
theorem jc_open1 (at_ most : Int) {N k : Nat} {D : DM} (h : OkD N k D) (hk : k + 3 ≤ 100000000) (hNN : N ≤ 1000000000) (hb : liesB N at_ most = true) (hh : HeadOK D at_) : HCalls Tryd.prog 11 [.ptr 1000001 0, pint at_, pint most] (dG 1000001 1000002 1000003 D) (dMs 1000003 D) (.tup [.ptr 4004 0, pint 0]) (jG 1000001 1000002 1000003 4004 at_ most (D.opened at_)) (dMs 1000003 (D.opened at_)) := by
  have c1 := dC_low D
  have c2 := dM_low D
  refine hcalls_of_pw typeTab_ok Tryd.func11 rfl rfl (by simp [PV.ownB, pint]) (Nat.le_of_ble_eq_true rfl) (by simp [ResIds, jG, dG, dMs]) (by simp [ResIds, jG, dG, dMs]) (by exact hok0) ?_
  have hrm := pw_room most
  have hsz := dc_Size D 1000001 1000002 1000003 (by decide)
  rw [h.len] at hsz
  simp only [liesB, decide_eq_true_eq] at hb
  have hrr : 0 < roomI most ∧ roomI most ≤ 2000 := by unfold roomI numbersI; rw [if_neg (by omega)]; omega
  have hrec := jc_recover most h at_ hb.2.2.1 (by omega) hk hNN hh 1000001 1000002 1000003 4004 (by decide)
  generalize roomI most = R at *
  generalize D.opened at_ = D2 at *
  refine wk ?_
  exact RetH.mk rfl (Weak.refl _) ⟨⟨_, rfl, WeakL.refl _⟩, ⟨_, rfl, WeakL.refl _⟩, ⟨_, rfl, WeakL.refl _⟩, trivial⟩ ⟨⟨rfl, rfl⟩, trivial⟩
theorem jc_openE (at_ most : Int) {N k : Nat} {D : DM} (h : OkD N k D) (hNN : N ≤ 1000000000) (hb : liesB N at_ most = false) (d c m : Nat) (hd : ([d, c, m] : List Nat).Nodup) : HCalls Tryd.prog 11 [.ptr d 0, pint at_, pint most] (dG d c m D) (dMs m D) (.tup [.val (.pointer none), pint 1]) (dG d c m D) (dMs m D) := by
  refine (jc_openE1 at_ most h hNN hb).at [(1000001, d), (1000002, c), (1000003, m)] (by simpa using hd) (by simp [ResIds, jG, dG, dMs]) (by simp [jG, dG]) (by simp [dMs]) ?_ ?_ ?_ (.low _ (.tup _ (by intro c hc; simp at hc; rcases hc with rfl | rfl <;> exact .val _))) ?_ ?_ <;> exact ren0
theorem jc_open (at_ most : Int) {N k : Nat} {D : DM} (h : OkD N k D) (hk : k + 3 ≤ 100000000) (hNN : N ≤ 1000000000) (hb : liesB N at_ most = true) (hh : HeadOK D at_) (d c m j : Nat) (hd : ([d, c, m, j] : List Nat).Nodup) : HCalls Tryd.prog 11 [.ptr d 0, pint at_, pint most] (dG d c m D) (dMs m D) (.tup [.ptr j 0, pint 0]) (jG d c m j at_ most (D.opened at_)) (dMs m (D.opened at_)) := by
  refine (jc_open1 at_ most h hk hNN hb hh).at [(1000001, d), (1000002, c), (1000003, m), (4004, j)] (by simpa using hd) (by simp [ResIds, jG, dG, dMs]) (by simp [jG, dG]) (by simp [dMs]) ?_ ?_ ?_ (ren_tup (.cons (.ptr _ _ (by first | simp [ResIds, dG, dMs, jG] | simp [ResIds, dG, dMs, crG, crM] | simp [ResIds, dG, dMs])) (.cons (.low _ (.val _)) .nil))) ?_ ?_ <;> exact ren0
end Go.Proofs.YtilcpcpmkklobaaDoor

/- The specification's journal. -/
namespace Go.Proofs.YtilcpcpmkklobaaDoor
set_option linter.unusedSimpArgs false
set_option linter.unusedVariables false
set_option linter.unnecessarySimpa false
open Go.RowKit

set_option maxRecDepth 10000 in
set_option maxHeartbeats 1000000 in
theorem pw_refRoom (m : Int) : PCalls Tryd.prog 17 [pint m] (· = pint (roomI m)) := by
  refine pcalls_of_pw typeTab_ok Tryd.func17 rfl (by kernel_rfl) (by exact lw) (by simp [pint, PV.ownB]) (Nat.le_of_ble_eq_true rfl) ?_
  by_cases h1 : m < 1
  · rw [roomI, if_pos (.inl h1)]
    refine wk ?_
    exact retP rfl (by exact lw) rfl
  · by_cases h2 : 1024 < m
    · rw [roomI, if_pos (.inr h2)]
      refine wk ?_
      exact retP rfl (by exact lw) rfl
    · rw [roomI, if_neg (by omega)]
      refine wk ?_
      refine PW.loop (fun k : Nat => (((bot.put 0 (pint m)).put 2 (pint 0)).put 3 (pint (1 + m + k))).put 4 (pint (16 * (k : Int)))) (fun k => 16 * (k : Int) < m + 16) (fun k => 2000 - k) 0 (by omega) ?_ ?_
      · rw [show (1 + m + ((0 : Nat) : Int)) = 1 + m by omega, show 16 * (((0 : Nat)) : Int) = 0 by omega]
        exact sb
      · intro k hk
        by_cases hlt : 16 * (k : Int) < m
        · refine wk ?_
          refine loopP (k + 1) (by omega) (by omega) ?_
          rw [show (1 + m + ((k + 1 : Nat) : Int)) = 1 + m + k + 1 by omega, show 16 * (((k + 1 : Nat)) : Int) = 16 * (k : Int) + 16 by omega]
          exact sb
        · refine wk ?_
          refine retP rfl (by exact lw) ?_
          have : (k : Int) = numbersI m := by unfold numbersI; omega
          rw [← this]
          show pint (1 + m + k) = _
          rw [show 1 + m + (k : Int) = 1 + k + m by omega]

set_option maxRecDepth 10000 in
set_option maxHeartbeats 1000000 in
theorem pw_lies (N at_ most : Int) (h0 : 0 ≤ N ∧ N ≤ 1000000000) : PCalls Tryd.prog 8 [pint N, pint at_, pint most] (· = pbool (liesB N at_ most)) := by
  refine pcalls_of_pw typeTab_ok Tryd.func8 rfl (by kernel_rfl) (by exact lw) (by simp [pint, PV.ownB]) (Nat.le_of_ble_eq_true rfl) ?_
  have hr := pw_refRoom most
  have hrr : 0 ≤ roomI most ∧ roomI most ≤ 2000 ∧ (roomI most = 0 ↔ (most < 1 ∨ 1024 < most)) := by unfold roomI numbersI; split <;> omega
  have hl : liesB N at_ most = decide (0 < roomI most ∧ 0 ≤ at_ ∧ at_ ≤ N - roomI most) := by
    unfold liesB
    exact decide_eq_decide.2 (by omega)
  rw [hl]
  generalize roomI most = R at *
  by_cases r0 : 0 < R
  · by_cases a0 : 0 ≤ at_
    · by_cases a1 : at_ ≤ N - R
      · rw [decide_eq_true ⟨r0, a0, a1⟩]
        refine wk ?_
        exact retP rfl (by exact lw) rfl
      · rw [decide_eq_false (fun h => a1 h.2.2)]
        refine wk ?_
        exact retP rfl (by exact lw) rfl
    · rw [decide_eq_false (fun h => a0 h.2.1)]
      refine wk ?_
      exact retP rfl (by exact lw) rfl
  · rw [decide_eq_false (fun h => r0 h.1)]
    refine wk ?_
    exact retP rfl (by exact lw) rfl

theorem nodup_at {l : List PPut} {i j : Nat} (hj : j < i) (hi : i < l.length) (h : (l.getD i default).sec = (l.getD j default).sec) : ¬ (l.map PPut.sec).Nodup := by
  intro hn
  have hj' : j < l.length := by omega
  have := List.pairwise_iff_getElem.1 hn j i (by simpa using hj') (by simpa using hi) hj
  simp only [List.getD_eq_getElem?_getD, List.getElem?_eq_getElem hi, List.getElem?_eq_getElem hj', Option.getD_some] at h
  simp only [List.getElem_map] at this
  exact this h.symm
theorem nodup_of {l : List PPut} (h : ∀ i j, j < i → i < l.length → (l.getD i default).sec ≠ (l.getD j default).sec) : (l.map PPut.sec).Nodup := by
  refine List.pairwise_iff_getElem.2 fun i j hi hj hij e => ?_
  have hi' : i < l.length := by simpa using hi
  have hj' : j < l.length := by simpa using hj
  apply h j i hij hj'
  simp only [List.getD_eq_getElem?_getD, List.getElem?_eq_getElem hi', List.getElem?_eq_getElem hj', Option.getD_some]
  simp only [List.getElem_map] at e
  exact e.symm

set_option maxRecDepth 10000 in
set_option maxHeartbeats 4000000 in
theorem pw_check24 (N at_ most : Int) (l : List PPut) (h0 : 0 ≤ N ∧ N ≤ 1000000000) (h1 : 0 ≤ at_ ∧ at_ ≤ 1000000000) (hl : l.length ≤ 100000000) : PCalls Tryd.prog 14 [pint N, pint at_, pint most, pputs l] (· = pint (jApE N at_ most l)) := by
  have hll := low_pputs l
  refine pcalls_of_pw typeTab_ok Tryd.func14 rfl (by kernel_rfl) (by intro p hp; simp at hp; rcases hp with rfl | rfl | rfl | rfl; exact .val _; exact .val _; exact .val _; exact hll) (by simp [pint, pputs, PV.ownB]) (Nat.le_of_ble_eq_true rfl) ?_
  have hr := pw_refRoom most
  have hrr : 0 ≤ roomI most ∧ roomI most ≤ 2000 := by unfold roomI numbersI; split <;> omega
  by_cases hm : most < l.length
  · rw [jApE, if_pos hm]
    refine wk ?_
    exact retP rfl (by exact lw) rfl
  · refine wk ?_
    refine PW.loop (fun i : Nat => (((((bot.put 0 (pint N)).put 1 (pint at_)).put 2 (pint most)).put 3 (pputs l)).put 8 (pint 0)).put 9 (pint i)) (fun i => i ≤ l.length ∧ ∀ j, j < i → badP N at_ most (l.getD j default) = false) (fun i => l.length - i) 0 ⟨by omega, fun j hj => by omega⟩ ?_ ?_
    · exact sb
    · intro i ⟨hi, hgood⟩
      by_cases hlt : i < l.length
      · by_cases hb : badP N at_ most (l.getD i default) = true
        · rw [jApE_bad hm hlt hb]
          simp only [badP, decide_eq_true_eq] at hb
          generalize roomI most = R at *
          by_cases b1 : (l.getD i default).sec < 0
          · refine wk ?_
            exact retP rfl (by exact lw) rfl
          · by_cases b2 : N ≤ (l.getD i default).sec
            · refine wk ?_
              exact retP rfl (by exact lw) rfl
            · have b3 : at_ ≤ (l.getD i default).sec := by omega
              have b4 : (l.getD i default).sec < at_ + R := by omega
              refine wk ?_
              exact retP rfl (by exact lw) rfl
        · have hb' : badP N at_ most (l.getD i default) = false := by simpa using hb
          have hg2 : ∀ j, j < i + 1 → badP N at_ most (l.getD j default) = false := by
            intro j hj
            by_cases e : j = i
            · subst e; exact hb'
            · exact hgood j (by omega)
          simp only [badP, decide_eq_false_iff_not, not_or] at hb'
          obtain ⟨b1, b2, b3⟩ := hb'
          clear hgood hb
          by_cases b4 : at_ ≤ (l.getD i default).sec
          · have b5 : ¬ (l.getD i default).sec < at_ + roomI most := fun e => b3 ⟨b4, e⟩
            clear b3
            generalize roomI most = R at *
            refine wk ?_
            refine loopP (i + 1) ⟨by omega, hg2⟩ (by omega) ?_
            exact sb
          · clear b3
            generalize roomI most = R at *
            refine wk ?_
            refine loopP (i + 1) ⟨by omega, hg2⟩ (by omega) ?_
            exact sb
      · have e : i = l.length := by omega
        subst e
        have eg := jApE_good hm hgood
        clear hgood
        rw [eg]
        refine wk ?_
        refine PW.loop (fun i : Nat => (((bot.put 3 (pputs l)).put 8 (pint 0)).put 11 (pint i))) (fun i => i ≤ l.length ∧ ∀ a b, b < a → a < i → (l.getD a default).sec ≠ (l.getD b default).sec) (fun i => l.length - i) 0 ⟨by omega, fun a b hb ha => by omega⟩ ?_ ?_
        · exact sb
        · intro i ⟨hi, hnd⟩
          by_cases hlt : i < l.length
          · refine wk ?_
            refine PW.loop (fun k : Nat => ((((bot.put 3 (pputs l)).put 8 (pint 0)).put 11 (pint i)).put 12 (pint k))) (fun k => k ≤ i ∧ ∀ b, b < k → (l.getD i default).sec ≠ (l.getD b default).sec) (fun k => i - k) 0 ⟨by omega, fun b hb => by omega⟩ ?_ ?_
            · exact sb
            · intro k ⟨hk, hne⟩
              by_cases hki : k < i
              · by_cases hs : (l.getD i default).sec = (l.getD k default).sec
                · rw [if_neg (nodup_at hki hlt hs)]
                  clear hnd hne
                  refine wk ?_
                  exact retP rfl (by exact lw) rfl
                · have hne2 : ∀ b, b < k + 1 → (l.getD i default).sec ≠ (l.getD b default).sec := by
                    intro b hb
                    by_cases e : b = k
                    · subst e; exact hs
                    · exact hne b (by omega)
                  clear hnd hne
                  refine wk ?_
                  refine loopP (k + 1) ⟨by omega, hne2⟩ (by omega) ?_
                  exact sb
              · have e : k = i := by omega
                subst e
                have hnd2 : ∀ a b, b < a → a < k + 1 → (l.getD a default).sec ≠ (l.getD b default).sec := by
                  intro a b hb ha
                  by_cases e : a = k
                  · subst e; exact hne b hb
                  · exact hnd a b hb (by omega)
                clear hnd hne
                refine wk ?_
                refine loopP (k + 1) ⟨by omega, hnd2⟩ (by omega) ?_
                exact sb
          · have e : i = l.length := by omega
            subst e
            rw [if_pos (nodup_of fun i j hj hi => hnd i j hj hi)]
            clear hnd
            refine wk ?_
            exact retP rfl (by exact lw) rfl
end Go.Proofs.YtilcpcpmkklobaaDoor

/- The specification's journal: Do, Filled; the laws' helpers. -/
namespace Go.Proofs.YtilcpcpmkklobaaDoor
set_option linter.unusedSimpArgs false
set_option linter.unusedVariables false
set_option linter.unnecessarySimpa false
open Go.RowKit

def doM (d : List Sec) : List PPut → List Sec
  | [] => d
  | p :: l => doM (d.set p.sec.toNat p.dat) l
theorem doM_len : ∀ (l : List PPut) (d : List Sec), (doM d l).length = d.length
  | [], d => rfl
  | p :: l, d => by rw [doM, doM_len l, List.length_set]
theorem doM_snoc : ∀ (l : List PPut) (d : List Sec) (p : PPut), doM d (l ++ [p]) = (doM d l).set p.sec.toNat p.dat
  | [], d, p => rfl
  | q :: l, d, p => by rw [List.cons_append, doM, doM_snoc l, doM]
theorem all_flat {α : Type} {f : α → List PV} {g : PV → Bool} (h : ∀ x, (f x).all g = true) (l : List α) : (l.flatMap f).all g = true := by
  rw [List.all_eq_true]
  intro c hc
  obtain ⟨x, -, hx⟩ := List.mem_flatMap.1 hc
  exact List.all_eq_true.1 (h x) c hx
theorem secL_no (s : Sec) : (secL s).all (fun c => !c.ownB) = true := by
  rw [List.all_eq_true]
  intro c hc
  obtain ⟨z, -, rfl⟩ := List.mem_map.1 hc; rfl
theorem put_row {l : List PPut} {i : Nat} (h : i < l.length) : (((l.flatMap putL).drop (i * 65 + 1)).take 64).map PV.bare = secL (l.getD i default).dat := by
  have h1 := flatMap_row putL_len (getD_get default h)
  have h2 : ((l.flatMap putL).drop (i * 65 + 1)).take 64 = (((l.flatMap putL).drop (i * 65)).take 65).drop 1 := by
    rw [List.drop_take, List.drop_drop]
  rw [h2, h1]
  exact secL_bare _

set_option maxRecDepth 10000 in
set_option maxHeartbeats 2000000 in
theorem pw_do (d : List Sec) (l : List PPut) (hd : 0 < d.length ∧ d.length ≤ 1000000) (hi : InD d.length l) (hl : l.length ≤ 1000000) : PCalls Tryd.prog 15 [psecs d none, pputs l] (· = psecs (doM d l) none) := by
  have hll := low_pputs l
  have hls := psecs_low d none
  refine pcalls_of_pw typeTab_ok Tryd.func15 rfl (by kernel_rfl) (by intro p hp; simp at hp; rcases hp with rfl | rfl; exact hls; exact hll) (by simp [psecs, pputs, PV.ownB]) (Nat.le_of_ble_eq_true rfl) ?_
  refine wk ?_
  refine PWops.appN (ds := d.flatMap secL) typeTab_ok rfl (fun _ _ => rfl) rfl rfl (.inr rfl) rfl rfl rfl rfl rfl (by omega) (by omega) hd.1 (all_flat secL_one _) (all_flat secL_no _) ?_
  refine wk ?_
  have hf : ∀ i, ∀ c ∈ (doM d (l.take i)).flatMap secL, Low c := fun i => flat_low secL_low _
  refine PW.loop (fun i : Nat => (((((bot.setb 1002 ((doM d (l.take i)).flatMap secL)).put 1 (pputs l)).put 4 .nilsl).put 5 (.msl 1002 0 d.length 64)).put 6 (pint i))) (fun i => i ≤ l.length) (fun i => l.length - i) 0 (by omega) ?_ ?_
  · have h1 := hf 0
    exact sb
  · intro i hil
    by_cases hlt : i < l.length
    · have hrow := put_row hlt
      have hpm : l.getD i default ∈ l := by rw [List.getD_eq_getElem?_getD, List.getElem?_eq_getElem hlt]; exact List.getElem_mem hlt
      obtain ⟨p0, p1⟩ := hi _ hpm
      have hn : doM d (l.take (i + 1)) = (doM d (l.take i)).set (l.getD i default).sec.toNat (l.getD i default).dat := by rw [take_getD default hlt, doM_snoc]
      have h1 := hf (i + 1)
      have hlen : (doM d (l.take i)).length = d.length := doM_len _ _
      rw [hn] at h1
      have hfl : (l.flatMap putL).length = l.length * 65 := flatMap_len putL_len l
      clear hpm hf
      generalize doM d (l.take i) = X at *
      refine wk ?_
      refine PWops.stBR (v := (l.getD i default).dat) rfl rfl rfl rfl rfl ?_ rfl rfl rfl secL_len (by omega) rfl ?_
      · show (if (secL (l.getD i default).dat).all PV.one = true then some ((secL (l.getD i default).dat).map PV.bare) else none) = _
        rw [secL_one, if_pos rfl, secL_bare]
      refine wk ?_
      refine loopP (i + 1) (by omega) (by omega) ?_
      rw [hn]
      exact sb
    · have e : i = l.length := by omega
      subst e
      have h1 := hf l.length
      rw [List.take_length] at h1 ⊢
      have hlen : (doM d l).length = d.length := doM_len _ _
      rw [show psecs (doM d l) none = .sl d.length 64 ((doM d l).flatMap secL) none by rw [psecs, hlen]]
      generalize doM d l = X at *
      refine PW.freeze (id := 1002) (s := 5) (σ' := ((bot.put 1 (pputs l)).put 4 .nilsl).put 6 (pint l.length)) rfl rfl (by rw [flatMap_len secL_len, hlen]) h1 (by exact sbr0) rfl ?_
      have h2 : Low (.sl d.length 64 (X.flatMap secL) none) := .sl _ _ _ _ h1
      refine wk ?_
      exact retP rfl (by exact lw) rfl

def fillL (b : Int) (i : Nat) : List Int := List.replicate i b ++ List.replicate (64 - i) 0
theorem fillL_set (b : Int) (i : Nat) (h : i < 64) : (fillL b i).set i b = fillL b (i + 1) := by
  rw [fillL, List.set_append_right _ _ (by simp), List.length_replicate, Nat.sub_self]
  rw [show 64 - i = (64 - (i + 1)) + 1 by omega, List.replicate_succ, List.set_cons_zero, fillL, List.replicate_succ', List.append_assoc]; rfl
def fillS (b : Int) (hb : 0 ≤ b ∧ b < 256) : Sec := ⟨List.replicate 64 b, by simp, fun x hx => by rw [(List.mem_replicate.1 hx).2]; exact hb⟩
theorem fillL_len (b : Int) (i : Nat) (h : i ≤ 64) : (fillL b i).length = 64 := by simp [fillL]; omega
set_option maxRecDepth 10000 in
set_option maxHeartbeats 2000000 in
theorem pw_filled (b : Int) (hb : 0 ≤ b ∧ b < 256) : PCalls Tryd.prog 23 [pbyte b] (· = psec (fillS b hb)) := by
  refine pcalls_of_pw typeTab_ok Tryd.func23 rfl (by kernel_rfl) (by exact lw) (by simp [pbyte, PV.ownB]) (Nat.le_of_ble_eq_true rfl) ?_
  refine wk ?_
  have hf : ∀ i, ∀ c ∈ (fillL b i).map pbyte, Low c := fun i => low_map (fun _ => Low.val _) _
  refine PW.loop (fun i : Nat => ((((((bot.setb 0 (List.replicate 64 (pbyte 0))).setb 1000 ((fillL b i).map pbyte)).put 0 (pbyte b)).put 2 (.ptr 0 0)).put 3 (.ptr 1000 0)).put 4 (pint i))) (fun i => i ≤ 64) (fun i => 64 - i) 0 (by omega) ?_ ?_
  · have h1 := hf 0
    exact sb
  · intro i hi
    have hlen := fillL_len b i hi
    by_cases hlt : i < 64
    · have hs := fillL_set b i hlt
      have h1 := hf (i + 1)
      rw [← hs] at h1
      generalize fillL b i = X at *
      refine wk ?_
      refine loopP (i + 1) (by omega) (by omega) ?_
      rw [← hs]
      rw [Int.toNat_natCast]
      exact sb
    · have e : i = 64 := by omega
      subst e
      have e2 : fillL b 64 = (fillS b hb).1 := by simp [fillL, fillS]
      rw [e2]
      have h1 := secL_low (fillS b hb)
      generalize fillS b hb = s at *
      rw [show s.1.map pbyte = secL s from rfl]
      refine wk ?_
      exact ⟨_, presult1 (pres_cell rfl rfl rfl (by (first | rfl | exact secL_len _ | exact dcellL_len _ | exact putL_len _ | exact len_map (by assumption) | exact len_map rfl)) (by (first | rfl | exact secL_bare _ | exact dcellL_bare _ | exact putL_bare _ | exact bare_map (fun _ => rfl) _))), .agg _ h1, rfl⟩
end Go.Proofs.YtilcpcpmkklobaaDoor

/- The laws of the journal: few, has. -/
namespace Go.Proofs.YtilcpcpmkklobaaDoor
set_option linter.unusedSimpArgs false
set_option linter.unusedVariables false
set_option linter.unnecessarySimpa false
open Go.RowKit

instance : Inhabited (List PPut) := ⟨[]⟩
def pputss (ls : List (List PPut)) : PV := .sl ls.length 1 (ls.map pputs) none
theorem low_pputss (ls : List (List PPut)) : Low (pputss ls) := .sl _ _ _ _ (low_map low_pputs _)
def parea (size at_ most : Int) : List PV := [pint size, pint at_, pint most]
theorem low_parea (size at_ most : Int) : Low (.agg (parea size at_ most)) := .agg _ (by intro c hc; simp [parea] at hc; rcases hc with rfl | rfl | rfl <;> exact .val _)
def fewB (size most : Int) (ls : List (List PPut)) : Bool := decide (ls.all (fun l => decide (l.length ≤ 30)) = true ∧ 1 ≤ size ∧ size ≤ 150 ∧ most ≤ 20 ∧ ls.length ≤ 20)

set_option maxRecDepth 10000 in
set_option maxHeartbeats 1000000 in
theorem pw_few24 (size at_ most : Int) (ls : List (List PPut)) (hl : ls.length ≤ 1000000000000000) (hls : ∀ l ∈ ls, l.length ≤ 1000000000000000) : PCalls Tryd.prog 7 [.agg (parea size at_ most), pputss ls] (· = pbool (fewB size most ls)) := by
  have h1 := low_pputss ls
  have h2 := low_parea size at_ most
  refine pcalls_of_pw typeTab_ok Tryd.func7 rfl (by kernel_rfl) (by intro p hp; simp at hp; rcases hp with rfl | rfl; exact h2; exact h1) (by simp [pputss, PV.ownB]) (Nat.le_of_ble_eq_true rfl) ?_
  refine wk ?_
  refine PW.loop (fun i : Nat => (((((bot.setb 0 (parea size at_ most)).put 1 (pputss ls)).put 2 (.ptr 0 0)).put 4 (pbool false)).put 5 (pint i))) (fun i => i ≤ ls.length ∧ ∀ j, j < i → (ls.getD j default).length ≤ 30) (fun i => ls.length - i) 0 ⟨by omega, fun j hj => by omega⟩ ?_ ?_
  · exact sb
  · intro i ⟨hi, hgood⟩
    by_cases hlt : i < ls.length
    · have hmem : ls.getD i default ∈ ls := by rw [List.getD_eq_getElem?_getD, List.getElem?_eq_getElem hlt]; exact List.getElem_mem hlt
      have hb := hls _ hmem
      by_cases h30 : (ls.getD i default).length ≤ 30
      · have hg2 : ∀ j, j < i + 1 → (ls.getD j default).length ≤ 30 := by
          intro j hj
          by_cases e : j = i
          · subst e; exact h30
          · exact hgood j (by omega)
        clear hgood hmem
        refine wk ?_
        refine loopP (i + 1) ⟨by omega, hg2⟩ (by omega) ?_
        exact sb
      · have e : fewB size most ls = false := by
          refine decide_eq_false fun h => ?_
          have := List.all_eq_true.1 h.1 _ hmem
          simp at this; exact h30 this
        rw [e]
        clear hgood hmem
        refine wk ?_
        exact retP rfl (by exact lw) rfl
    · have e : i = ls.length := by omega
      subst e
      have hall : ls.all (fun l => decide (l.length ≤ 30)) = true := by
        rw [List.all_eq_true]
        intro l hl
        obtain ⟨j, hj, rfl⟩ := List.getElem_of_mem hl
        have := hgood j hj
        rw [List.getD_eq_getElem?_getD, List.getElem?_eq_getElem hj, Option.getD_some] at this
        simpa using this
      have e1 : fewB size most ls = decide (1 ≤ size ∧ size ≤ 150 ∧ most ≤ 20 ∧ ls.length ≤ 20) := by
        unfold fewB
        exact decide_eq_decide.2 ⟨fun h => h.2, fun h => ⟨hall, h⟩⟩
      rw [e1]
      clear hgood hall e1
      by_cases c1 : 1 ≤ size
      · by_cases c2 : size ≤ 150
        · by_cases c3 : most ≤ 20
          · by_cases c4 : ls.length ≤ 20
            · rw [decide_eq_true ⟨c1, c2, c3, c4⟩]
              refine wk ?_
              exact retP rfl (by exact lw) rfl
            · rw [decide_eq_false (fun h => c4 h.2.2.2)]
              refine wk ?_
              exact retP rfl (by exact lw) rfl
          · rw [decide_eq_false (fun h => c3 h.2.2.1)]
            refine wk ?_
            exact retP rfl (by exact lw) rfl
        · rw [decide_eq_false (fun h => c2 h.2.1)]
          refine wk ?_
          exact retP rfl (by exact lw) rfl
      · rw [decide_eq_false (fun h => c1 h.1)]
        refine wk ?_
        exact retP rfl (by exact lw) rfl

/-- A sector outside of the area is as the model says. -/
def hasAt (D : DM) (at_ most : Int) (l : List Sec) (i : Nat) : Bool := decide (at_ ≤ i ∧ i < at_ + roomI most) || (decide ((D.read i).2 = 0) && decide ((D.read i).1.1 = (l.getD i default).1))
def hasB (D : DM) (at_ most : Int) (l : List Sec) : Bool := (List.range l.length).all (hasAt D at_ most l)
theorem hasB_false {D : DM} {at_ most : Int} {l : List Sec} {i : Nat} (hi : i < l.length) (h : hasAt D at_ most l i = false) : hasB D at_ most l = false := by
  rw [Bool.eq_false_iff]
  intro e
  have := List.all_eq_true.1 e i (List.mem_range.2 hi)
  rw [h] at this; cases this
theorem hasB_true {D : DM} {at_ most : Int} {l : List Sec} (h : ∀ i, i < l.length → hasAt D at_ most l i = true) : hasB D at_ most l = true :=
  List.all_eq_true.2 fun i hi => h i (List.mem_range.1 hi)

set_option maxRecDepth 10000 in
set_option maxHeartbeats 2000000 in
theorem dc_has (D : DM) (size at_ most : Int) (l : List Sec) (hl : l.length ≤ 1000000) (ha : 0 ≤ at_ ∧ at_ ≤ 1000000000) (hsz : D.cells.length ≤ 1000000000) (hop : ∀ e ∈ D.op, e.2.2.length ≤ 1000000000) : DCalls 18 [.agg (parea size at_ most), psecs l none] D (pbool (hasB D at_ most l)) D := by
  have h1 := psecs_low l none
  have h2 := low_parea size at_ most
  have c1 := dC_low D
  have c2 := dM_low D
  refine dcalls_of_pw Tryd.func18 rfl rfl (by intro p hp; simp at hp; rcases hp with rfl | rfl; exact h2; exact h1) (by simp [psecs, PV.ownB]) (Nat.le_of_ble_eq_true rfl) (by exact lw) ?_
  have hr := pw_refRoom most
  have hrr : 0 ≤ roomI most ∧ roomI most ≤ 2000 := by unfold roomI numbersI; split <;> omega
  refine wk ?_
  refine PW.loop (fun i : Nat => ((((((((bot.setb 1000001 (dB 1000002 1000003 D)).setb 1000002 (dC D)).setm 1000003 (dM D)).setb 0 (parea size at_ most)).put 0 (.ptr 1000001 0)).put 2 (psecs l none)).put 4 (.ptr 0 0)).put 6 (pbool false)).put 7 (pint i)) (fun i => i ≤ l.length ∧ ∀ j, j < i → hasAt D at_ most l j = true) (fun i => l.length - i) 0 ⟨by omega, fun j hj => by omega⟩ ?_ ?_
  · exact sb
  · intro i ⟨hi, hgood⟩
    by_cases hlt : i < l.length
    · have step : hasAt D at_ most l i = true → ∀ j, j < i + 1 → hasAt D at_ most l j = true := by
        intro hh j hj
        by_cases e : j = i
        · subst e; exact hh
        · exact hgood j (by omega)
      have hread := dc_Read D i hsz hop 1000001 1000002 1000003 (by decide)
      have hq := peqs_ints (k := .u8) (D.read i).1.1 (l.getD i default).1 (by rw [(D.read i).1.2.1, (l.getD i default).2.1])
      rw [(D.read i).1.2.1] at hq
      have hA : hasAt D at_ most l i = (decide (at_ ≤ i ∧ i < at_ + roomI most) || (decide ((D.read i).2 = 0) && decide ((D.read i).1.1 = (l.getD i default).1))) := rfl
      have hfalse : hasAt D at_ most l i = false → hasB D at_ most l = false := fun h => hasB_false hlt h
      generalize hasAt D at_ most l i = A at *
      have body : ∀ (g : ∀ j, j < i + 1 → hasAt D at_ most l j = true), True := fun _ => trivial
      clear hgood body
      generalize hR : roomI most = R at *
      generalize hD : D.read i = X at *
      obtain ⟨s, e⟩ := X
      simp only at *
      have out : ∀ (B : Bool), (decide (at_ ≤ (i : Int) ∧ (i : Int) < at_ + R) = false) → B = (decide (e = 0) && decide (s.1 = (l.getD i default).1)) → A = B := fun B h1 h2 => by rw [hA, h1, h2]; rfl
      by_cases a1 : at_ ≤ (i : Int)
      · by_cases a2 : (i : Int) < at_ + R
        · have g := step (by rw [hA, decide_eq_true (And.intro a1 a2)]; rfl)
          clear step hfalse hA out hq hread
          refine wk ?_
          refine loopP (i + 1) ⟨by omega, g⟩ (by omega) ?_
          exact sb
        · by_cases e0 : e = 0
          · subst e0
            by_cases es : s.1 = (l.getD i default).1
            · have g := step (out true (decide_eq_false fun h => a2 h.2) (by rw [decide_eq_true es]; rfl))
              rw [beq_iff_eq.2 es] at hq
              clear step hfalse hA out
              refine wk ?_
              refine PWops.eqA rfl rfl rfl rfl rfl rfl rfl rfl hq (.inr rfl) ?_
              refine wk ?_
              refine loopP (i + 1) ⟨by omega, g⟩ (by omega) ?_
              exact sb
            · rw [hfalse (out false (decide_eq_false fun h => a2 h.2) (by rw [decide_eq_false es]; rfl))]
              rw [beq_eq_false_iff_ne.2 es] at hq
              clear step hfalse hA out
              refine wk ?_
              refine PWops.eqA rfl rfl rfl rfl rfl rfl rfl rfl hq (.inr rfl) ?_
              refine wk ?_
              exact RetH.mk rfl (Weak.refl _) ⟨⟨_, rfl, WeakL.refl _⟩, ⟨_, rfl, WeakL.refl _⟩, trivial⟩ ⟨⟨rfl, rfl⟩, trivial⟩
          · rw [hfalse (out false (decide_eq_false fun h => a2 h.2) (by rw [decide_eq_false e0]; rfl))]
            clear step hfalse hA out hq
            refine wk ?_
            exact RetH.mk rfl (Weak.refl _) ⟨⟨_, rfl, WeakL.refl _⟩, ⟨_, rfl, WeakL.refl _⟩, trivial⟩ ⟨⟨rfl, rfl⟩, trivial⟩
      · by_cases e0 : e = 0
        · subst e0
          by_cases es : s.1 = (l.getD i default).1
          · have g := step (out true (decide_eq_false fun h => a1 h.1) (by rw [decide_eq_true es]; rfl))
            rw [beq_iff_eq.2 es] at hq
            clear step hfalse hA out
            refine wk ?_
            refine PWops.eqA rfl rfl rfl rfl rfl rfl rfl rfl hq (.inr rfl) ?_
            refine wk ?_
            refine loopP (i + 1) ⟨by omega, g⟩ (by omega) ?_
            exact sb
          · rw [hfalse (out false (decide_eq_false fun h => a1 h.1) (by rw [decide_eq_false es]; rfl))]
            rw [beq_eq_false_iff_ne.2 es] at hq
            clear step hfalse hA out
            refine wk ?_
            refine PWops.eqA rfl rfl rfl rfl rfl rfl rfl rfl hq (.inr rfl) ?_
            refine wk ?_
            exact RetH.mk rfl (Weak.refl _) ⟨⟨_, rfl, WeakL.refl _⟩, ⟨_, rfl, WeakL.refl _⟩, trivial⟩ ⟨⟨rfl, rfl⟩, trivial⟩
        · rw [hfalse (out false (decide_eq_false fun h => a1 h.1) (by rw [decide_eq_false e0]; rfl))]
          clear step hfalse hA out hq
          refine wk ?_
          exact RetH.mk rfl (Weak.refl _) ⟨⟨_, rfl, WeakL.refl _⟩, ⟨_, rfl, WeakL.refl _⟩, trivial⟩ ⟨⟨rfl, rfl⟩, trivial⟩
    · have e : i = l.length := by omega
      subst e
      rw [hasB_true hgood]
      clear hgood
      refine wk ?_
      exact RetH.mk rfl (Weak.refl _) ⟨⟨_, rfl, WeakL.refl _⟩, ⟨_, rfl, WeakL.refl _⟩, trivial⟩ ⟨⟨rfl, rfl⟩, trivial⟩
end Go.Proofs.YtilcpcpmkklobaaDoor
