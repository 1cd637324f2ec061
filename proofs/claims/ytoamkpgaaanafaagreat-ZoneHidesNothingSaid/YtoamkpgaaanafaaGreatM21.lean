/- Out of: Zc. -/
import Derived.Test.YtoamkpgaaanafaaGreatM19
namespace Go.Proofs.YtoamkpgaaanafaaGreat
set_option linter.unusedSimpArgs false
set_option linter.unusedVariables false
set_option linter.unnecessarySimpa false
section
open Go.RowKit
def hasK (b:PBox) (v:List Int) (k:Nat):Bool:=decide (b.lo.getD k default≤v.getD k default) && decide (v.getD k default≤b.hi.getD k default)
def boxHas (b:PBox) (v:List Int):Bool:=boxB b && (decide (v.length=b.lo.length) && (List.range v.length).all (hasK b v))
theorem boxB_len {b:PBox} (h:boxB b=true):b.lo.length=b.hi.length∧b.lo.length≤32∧1≤b.lo.length:=by
 simp only [boxB,vecB,Bool.and_eq_true,decide_eq_true_eq] at h
 omega
set_option maxRecDepth 10000 in
set_option maxHeartbeats 1000000 in
theorem pw_boxHas (b : PBox) (v : List Int) (h1 : b.lo.length ≤ 1000000000000) (h2 : b.hi.length ≤ 1000000000000) (h3 : v.length ≤ 1000000000000) : PCalls Tryz.prog 72 [pbox b, pints v] (· = pbool (boxHas b v)) := by
  have hv := pw_boxValid b h1 h2
  have hl1 := low_pboxL b
  refine pcalls_of_pw typeTab_ok Tryz.func72 rfl (by kernel_rfl) (by simp [low_pbox, low_pints]) (by simp [pbox, pints, PV.ownB]) (by rw [Tryz.ntmps72]; simp) ?_
  rw [Tryz.ntmps72, Tryz.results72]
  unfold boxHas
  by_cases e1 : boxB b = true
  · obtain ⟨q1, q2, q3⟩ := boxB_len e1
    rw [e1] at hv
    unfold pbox pboxL at *
    by_cases e2 : v.length = b.lo.length
    · refine wk ?_
      refine PW.loop (fun k : Nat => (((((bot.setb 0 [pints b.lo, pints b.hi]).put 2 (.ptr 0 0)).put 18 (pints v)).put 19 (pint v.length)).put 20 (pint k))) (fun k => k ≤ v.length ∧ ∀ j, j < k → hasK b v j = true) (fun k => v.length - k) 0 ⟨by omega, by simp⟩ ?_ ?_
      · exact sb
      · rintro k ⟨hk, hn⟩
        by_cases hlt : k < v.length
        · by_cases c1 : b.lo.getD k default ≤ v.getD k default
          · by_cases c2 : v.getD k default ≤ b.hi.getD k default
            · refine wk ?_
              refine loopP (k + 1) ⟨by omega, fun j hj => ?_⟩ (by omega) ?_
              · by_cases h : j = k
                · rw [h, hasK, decide_eq_true c1, decide_eq_true c2]; rfl
                · exact hn j (by omega)
              · exact sb
            · refine wk ?_
              refine retP rfl (by exact lw) ?_
              have : (List.range v.length).all (hasK b v) = false := by
                rw [List.all_eq_false]
                exact ⟨k, by simpa using hlt, by simp only [hasK, decide_eq_false c2, Bool.and_false]; simp⟩
              simp [pbool, this]
          · refine wk ?_
            refine retP rfl (by exact lw) ?_
            have : (List.range v.length).all (hasK b v) = false := by
              rw [List.all_eq_false]
              exact ⟨k, by simpa using hlt, by simp only [hasK, decide_eq_false c1, Bool.false_and]; simp⟩
            simp [pbool, this]
        · refine wk ?_
          refine retP rfl (by exact lw) ?_
          have : (List.range v.length).all (hasK b v) = true := by
            rw [List.all_eq_true]
            intro j hj
            exact hn j (by have : j < v.length := by simpa using hj
                           omega)
          rw [this, e1]; simp [pbool, e2]
    · refine wk ?_
      refine retP rfl (by exact lw) ?_
      simp [pbool, e2]
  · simp only [Bool.not_eq_true] at e1
    rw [e1] at hv
    unfold pbox pboxL at *
    refine wk ?_
    refine retP rfl (by exact lw) ?_
    simp [pbool, e1]
def boxIn (a b:PBox):Bool:=boxB a && (boxHas b a.lo && boxHas b a.hi)
set_option maxRecDepth 10000 in
set_option maxHeartbeats 1000000 in
theorem pw_boxIn (a b:PBox) (h1:a.lo.length≤1000000000000) (h2:a.hi.length≤1000000000000) (h3:b.lo.length≤1000000000000) (h4:b.hi.length≤1000000000000):PCalls Tryz.prog 101 [pbox a,pbox b] (· = pbool (boxIn a b)):=by
 have hv:=pw_boxValid a h1 h2
 have ha:=pw_boxHas b a.lo h3 h4 h1
 have hb:=pw_boxHas b a.hi h3 h4 h2
 have hl1:=low_pboxL a
 have hl2:=low_pboxL b
 refine pcalls_of_pw typeTab_ok Tryz.func101 rfl (by kernel_rfl) (by simp [low_pbox]) (by simp [pbox,PV.ownB]) (by rw [Tryz.ntmps101];simp) ?_
 rw [Tryz.ntmps101,Tryz.results101]
 unfold boxIn
 cases e1:boxB a with
 |false=>
  rw [e1] at hv
  unfold pbox pboxL at *
  refine wk ?_
  exact retP rfl (by exact lw) (by simp [pbool])
 |true=>
  rw [e1] at hv
  cases e2:boxHas b a.lo with
  |false=>
   rw [e2] at ha
   unfold pbox pboxL at *
   refine wk ?_
   exact retP rfl (by exact lw) (by simp [pbool])
  |true=>
   rw [e2] at ha
   unfold pbox pboxL at *
   cases e3:boxHas b a.hi <;>
   ·rw [e3] at hb
    refine wk ?_
    exact retP rfl (by exact lw) (by simp [pbool])
def zipI (g:Int→Int→Int) (a b:List Int):List Int:=(List.range a.length).map fun k=>g (a.getD k default) (b.getD k default)
theorem zipI_len (g:Int→Int→Int) (a b:List Int):(zipI g a b).length=a.length:=by simp [zipI]
theorem zipI_take {g:Int→Int→Int} {a b:List Int} {k:Nat} (h:k < a.length):(zipI g a b).take (k+1)=(zipI g a b).take k ++ [g (a.getD k default) (b.getD k default)]:=by
 rw [List.take_add_one]
 congr 1
 simp [zipI,h]
theorem low_mapapp (l:List Int) (x:Int):∀c∈l.map pint ++ [pint x],Low c:=by
 intro c hc
 rcases List.mem_append.1 hc with h|h
 ·obtain ⟨z,-,rfl⟩:=List.mem_map.1 h;exact .val _
 ·simp only [List.mem_cons,List.not_mem_nil,or_false] at h
  subst h;exact .val _
set_option maxRecDepth 10000 in
set_option maxHeartbeats 1000000 in
theorem pw_zip (f:Nat) (g:Int→Int→Int) (a b:List Int) (hf:Nat.blt f 1000000=true) (h1:a.length≤1000000) (h2:a.length≤b.length) (hg:∀x y,PCalls Tryz.prog f [pint x,pint y] (· = pint (g x y))):PCalls Tryz.prog 138 [pints a,pints b, .fn f []] (· = pints (zipI g a b)):=by
 have hlow1:Low (.fn f []):=.fn f [] (by simp)
 refine pcalls_of_pw typeTab_ok Tryz.func138 rfl (by kernel_rfl) (by simp [hlow1,low_pints]) (by simp [pints,PV.ownB]) (by rw [Tryz.ntmps138];simp) ?_
 rw [Tryz.ntmps138,Tryz.results138]
 refine wk ?_
 refine PW.loop (fun k:Nat=>((((((bot.put 0 (pints a)).put 1 (pints b)).put 2 (.fn f [])).put 7 (.sl k 1 (((zipI g a b).take k).map pint) (some 3))).put 10 (pint a.length)).put 11 (pint k))) (fun k=>k≤a.length) (fun k=>a.length - k) 0 (by omega) ?_ ?_
 ·exact sb
 ·intro k hk
  by_cases hlt:k < a.length
  ·refine wk ?_
   refine PWops.callV hf (hg _ _) rfl rfl rfl rfl rfl rfl ?_
   have hlen:=zipI_len g a b
   refine wk ?_
   refine loopP (k+1) (by omega) (by omega) ?_
   have hlow:∀own,Low (.sl (k+1) 1 (((zipI g a b).take k).map pint ++ [pint (g (a.getD k default) (b.getD k default))]) own):=fun own=>.sl _ _ _ _ (low_mapapp _ _)
   simp only [zipI_take hlt,List.map_append,List.map_cons,List.map_nil]
   exact sb
  ·refine wk ?_
   refine retP rfl (by exact lw) ?_
   have:k=a.length:=by omega
   subst this
   rw [List.take_of_length_le (by rw [zipI_len];omega)]
   simp [pints,zipI_len]
theorem pw_least (x y:Int):PCalls Tryz.prog 139 [pint x,pint y] (· = pint (min x y)):=by
 refine pcalls_of_pw typeTab_ok Tryz.func139 rfl (by kernel_rfl) (by simp [low_pint]) (by simp [pint,PV.ownB]) (by rw [Tryz.ntmps139];simp) ?_
 rw [Tryz.ntmps139,Tryz.results139]
 refine wk ?_
 refine retP rfl (by exact lw) ?_
 simp only [Bool.false_eq_true,if_false,pint]
 congr 2
 split<;>omega
theorem pw_greatest (x y:Int):PCalls Tryz.prog 140 [pint x,pint y] (· = pint (max x y)):=by
 refine pcalls_of_pw typeTab_ok Tryz.func140 rfl (by kernel_rfl) (by simp [low_pint]) (by simp [pint,PV.ownB]) (by rw [Tryz.ntmps140];simp) ?_
 rw [Tryz.ntmps140,Tryz.results140]
 refine wk ?_
 refine retP rfl (by exact lw) ?_
 simp only [if_true,pint]
 congr 2
 split<;>omega
theorem weak_nobox {c:Int} : Weak (.tup [.agg [.nilsl, .nilsl], .val (.int .i64 c)]) (.tup [.agg [pints [],pints []],pint c]):=
 Weak.tup (.cons (Weak.agg (.cons (Weak.nil 1) (.cons (Weak.nil 1) .nil))) (.cons (Weak.refl _) .nil))
def boxJoin (a b:PBox):PBox×Int:=if boxB a && (boxB b && decide (a.lo.length=b.lo.length)) then (⟨zipI min a.lo b.lo,zipI max a.hi b.hi⟩,0) else (⟨[],[]⟩,1)
end
end Go.Proofs.YtoamkpgaaanafaaGreat
