/- Out of: Tt, Tu. -/
import Derived.Test.YtmeekbjhpidcgaaDoorG36
namespace Go.Proofs.YtmeekbjhpidcgaaDoor
set_option linter.unusedSimpArgs false
set_option linter.unusedVariables false
set_option linter.unnecessarySimpa false
section
open Go.RowKit
def copT (D:DM) (at_:Nat):Nat→List (List PV)
 |0 => []
 |k+1=>copT D at_ k ++ (match readT D at_ k with
  |some x => [[pint k,pman x]]
  |none => [])
def Pre (xs pre:List (List PV)):Prop:=∃r,xs=pre ++ r
theorem copT_pre {D : DM} {at_ : Nat} : ∀ {n k : Nat}, k ≤ n → Pre (copT D at_ n) (copT D at_ k)
  | 0, k, h => by obtain rfl : k = 0 := by omega
                  exact ⟨[], rfl⟩
  | n + 1, k, h => by
    by_cases e : k = n + 1
    · subst e; exact ⟨[], by simp⟩
    · obtain ⟨r, hr⟩ := copT_pre (D := D) (at_ := at_) (show k ≤ n by omega)
      rw [copT, hr, List.append_assoc]
      exact ⟨_, rfl⟩
theorem dC_noown (D:DM):∀c∈dC D,c.ownB=false:=by
 intro c hc
 obtain ⟨d,-,hc⟩:=List.mem_flatMap.1 hc
 unfold dcellL at hc
 rcases List.mem_append.1 hc with hc|hc
 ·unfold secL at hc
  obtain ⟨x,-,rfl⟩:=List.mem_map.1 hc;rfl
 ·simp only [List.mem_cons,List.not_mem_nil,or_false] at hc;subst hc;rfl
theorem lend_dG {D:DM} (hop:D.op = []) {d c m:Nat} (hd : [d,c,m].Nodup):LentOK (dG d c m D) (dMs m D) where
 nd:=hd
 lowb:=by
  intro x hx
  simp only [dG,List.mem_cons,List.not_mem_nil,or_false] at hx
  rcases hx with rfl|rfl
  ·exact dB_lowI (by simp [ResIds,dG,dMs]) (by simp [ResIds,dG,dMs]) D
  ·exact fun p hp=>(dC_low D p hp).lowI
 lowm:=by
  intro x hx
  simp only [dMs,List.mem_cons,List.not_mem_nil,or_false] at hx
  subst hx
  exact fun e he=>⟨(dM_low D e he).1.lowI,(dM_low D e he).2.lowI⟩
 nob:=by
  intro x hx
  simp only [dG,List.mem_cons,List.not_mem_nil,or_false] at hx
  rcases hx with rfl|rfl
  ·intro c hc
   simp only [dB,List.mem_cons,List.not_mem_nil,or_false] at hc
   rcases hc with rfl|rfl|rfl|rfl|rfl<;>rfl
  ·exact dC_noown D
 nom:=by
  intro x hx es clock e
  simp only [dMs,List.mem_cons,List.not_mem_nil,or_false] at hx
  subst hx
  unfold dM at e
  rw [hop] at e
  simp only [List.map_nil,PMap.map.injEq] at e
  rw [←e.1]
  simp
def NoB (σ:PS):Prop:=∀id bs,σ.b id=some bs→∀c∈bs,c.ownB=false
def NoM (σ:PS):Prop:=∀id es c,σ.m id=some (.map es c)→∀e∈es,e.2.2.ownB=false
theorem noB_bot:NoB bot:=fun id bs e=>by cases e
theorem noB_put {σ:PS} {d:Nat} {v:PV} (h:NoB σ):NoB (σ.put d v):=h
theorem noB_setm {σ:PS} {d:Nat} {v:PMap} (h:NoB σ):NoB (σ.setm d v):=h
theorem noB_setb {σ:PS} {d:Nat} {cs:List PV} (h:NoB σ) (hc:∀c∈cs,c.ownB=false):NoB (σ.setb d cs):=by
 intro id bs e
 simp only [PS.setb,upd] at e
 cases hq:id.beq d with
 |true=>rw [hq] at e;cases e;exact hc
 |false=>rw [hq] at e;exact h id bs e
theorem noM_bot:NoM bot:=fun id es c e=>by cases e
theorem noM_put {σ:PS} {d:Nat} {v:PV} (h:NoM σ):NoM (σ.put d v):=h
theorem noM_setb {σ:PS} {d:Nat} {v:List PV} (h:NoM σ):NoM (σ.setb d v):=h
theorem noM_setm {σ:PS} {d:Nat} {c:Nat} (h:NoM σ):NoM (σ.setm d (.map [] c)):=by
 intro id es c' e
 simp only [PS.setm,upd] at e
 cases hq:id.beq d with
 |true=>rw [hq] at e;cases e;intro e he;cases he
 |false=>rw [hq] at e;exact h id es c' e
theorem dB_noown (c m:Nat) (D:DM):∀x∈dB c m D,x.ownB=false:=by
 intro x hx
 simp only [dB,List.mem_cons,List.not_mem_nil,or_false] at hx
 rcases hx with rfl|rfl|rfl|rfl|rfl<;>rfl
theorem pman_noown (m:PMan):∀x∈pmanL m,x.ownB=false:=by
 intro x hx
 simp only [pmanL,List.mem_cons,List.not_mem_nil,or_false] at hx
 rcases hx with rfl|rfl|rfl<;>rfl
theorem ren_tC2 {S:Nat→Prop} {d at_:Nat} {m:PMan} (h:S d):Ren (fun i=>i) S (.ep [.ep (tC d at_ m) 0] 0) (.ep [.ep (tC d at_ m) 0] 0):=by
 refine .ep 0 _ _ rfl fun j p q h1 h2=>?_
 rw [h1] at h2
 cases h2
 have hp:=mem_of_get h1
 rw [List.mem_singleton] at hp
 subst hp
 exact ren_tC h
set_option maxRecDepth 10000 in
set_option maxHeartbeats 2000000 in
theorem it_copies (D:DM) (at_:Nat) (now:PMan) (h:D.cells.length≤1000000000) (hop:D.op = []) (ha:at_≤1000000000):ItSpecG Tryd.prog 38 [.ep [.ep (tC 1000001 at_ now) 0] 0] (dG 1000001 1000002 1000003 D) (dMs 1000003 D) (Pre (copT D at_ 4)) (· = copT D at_ 4):=by
 have c1:=dC_low D
 have c2:=dM_low D
 refine itspecG_of_pwj typeTab_ok Tryd.func38 rfl (by kernel_rfl) ?_ (by simp [PV.ownB]) (Nat.le_of_ble_eq_true rfl) (by simp [ResIds,dG,dMs]) (lend_dG hop (by decide)) ?_
 ·intro p hp
  rw [List.mem_singleton] at hp
  subst hp
  exact .ep _ _ (fun c hc=>by rw [List.mem_singleton] at hc;subst hc;exact .ep _ _ (tC_lowI (by simp [ResIds,dG,dMs]) at_ now))
 intro Lb E Φ0 W l hgiv hy hr
 refine jw0 ?_
 refine PWJ.of_pw ?_
 refine wk ?_
 refine jw0 ?_
 refine PWJ.loop (fun k:Nat=>((((((bot.setb 1000001 (dB 1000002 1000003 D)).setb 1000002 (dC D)).setm 1000003 (dM D)).put 0 (.val (.func (.yield l) #[] #[]))).put 1 (.ep [.ep (tC 1000001 at_ now) 0] 0)).put 6 (pint k))) (fun k=>some (copT D at_ k)) (fun k=>k≤4) (fun k=>4 - k) 0 (by omega) ?_ rfl ?_
 ·(refine Sub.same ?_;(repeat (first|exact SubR.bot|((with_reducible refine SubR.isp ?_);refine SubR.put ?_ (by (first|exact .inl (ren_tC2 rfl)|exact .inl (ren_tC rfl)|exact .inl (.ptr _ _ rfl)|exact .inl (.msl _ _ _ _ rfl)|exact .inl (.mref _ rfl)|exact .inl (.low _ (by (first|exact low_mapI|exact low_mapS|exact low_mapB|assumption|exact hlow _|exact hlow _ _|exact Low.agg _ (low_map (fun _=>Low.val _) _)|(simp [low_pu32,low_pu64,low_val,low_nilsl,low_sl,low_ep,low_agg,low_tup,low_fn,low_pint,low_pstr,low_pbool,low_pints,low_pstrs,low_pbyte,low_pbytes,hlow];done)|(simp [low_pu32,low_pu64,low_val,low_nilsl,low_sl,low_ep,low_agg,low_tup,low_fn,low_pint,low_pstr,low_pbool,low_pints,low_pstrs,low_pbyte,low_pbytes];done)|simp [low_pu32,low_pu64,low_val,low_nilsl,low_sl,low_ep,low_agg,low_tup,low_fn,low_pint,low_pstr,low_pbool,low_pints,low_pstrs,low_pbyte,low_pbytes,low_pattrs,low_pdefs,low_pschema,low_pentry])))|exact .inr (.inl (.low _ (by (first|exact low_mapI|exact low_mapS|exact low_mapB|assumption|exact hlow _|exact hlow _ _|exact Low.agg _ (low_map (fun _=>Low.val _) _)|(simp [low_pu32,low_pu64,low_val,low_nilsl,low_sl,low_ep,low_agg,low_tup,low_fn,low_pint,low_pstr,low_pbool,low_pints,low_pstrs,low_pbyte,low_pbytes,hlow];done)|(simp [low_pu32,low_pu64,low_val,low_nilsl,low_sl,low_ep,low_agg,low_tup,low_fn,low_pint,low_pstr,low_pbool,low_pints,low_pstrs,low_pbyte,low_pbytes];done)|simp [low_pu32,low_pu64,low_val,low_nilsl,low_sl,low_ep,low_agg,low_tup,low_fn,low_pint,low_pstr,low_pbool,low_pints,low_pstrs,low_pbyte,low_pbytes,low_pattrs,low_pdefs,low_pschema,low_pentry]))))|exact .inr (.inr ⟨_,_,rfl,rfl⟩))))|((with_reducible refine SubR.isb ?_);refine SubR.setb ?_ rfl rfl (by (first|exact RenQL.low (by first|assumption|exact hlow _|exact hlow _ _|exact low_map (fun _=>Low.val _) _)|exact RenQL.lowE (by assumption) (low_map (fun _=>Low.val _) _)|((repeat (refine RenQL.cons (by (first|exact .inl (ren_tC2 rfl)|exact .inl (ren_tC rfl)|exact .inl (.ptr _ _ rfl)|exact .inl (.msl _ _ _ _ rfl)|exact .inl (.mref _ rfl)|exact .inl (.low _ (by (first|exact low_mapI|exact low_mapS|exact low_mapB|assumption|exact hlow _|exact hlow _ _|exact Low.agg _ (low_map (fun _=>Low.val _) _)|(simp [low_pu32,low_pu64,low_val,low_nilsl,low_sl,low_ep,low_agg,low_tup,low_fn,low_pint,low_pstr,low_pbool,low_pints,low_pstrs,low_pbyte,low_pbytes,hlow];done)|(simp [low_pu32,low_pu64,low_val,low_nilsl,low_sl,low_ep,low_agg,low_tup,low_fn,low_pint,low_pstr,low_pbool,low_pints,low_pstrs,low_pbyte,low_pbytes];done)|simp [low_pu32,low_pu64,low_val,low_nilsl,low_sl,low_ep,low_agg,low_tup,low_fn,low_pint,low_pstr,low_pbool,low_pints,low_pstrs,low_pbyte,low_pbytes,low_pattrs,low_pdefs,low_pschema,low_pentry])))|exact .inr (.inl (.low _ (by (first|exact low_mapI|exact low_mapS|exact low_mapB|assumption|exact hlow _|exact hlow _ _|exact Low.agg _ (low_map (fun _=>Low.val _) _)|(simp [low_pu32,low_pu64,low_val,low_nilsl,low_sl,low_ep,low_agg,low_tup,low_fn,low_pint,low_pstr,low_pbool,low_pints,low_pstrs,low_pbyte,low_pbytes,hlow];done)|(simp [low_pu32,low_pu64,low_val,low_nilsl,low_sl,low_ep,low_agg,low_tup,low_fn,low_pint,low_pstr,low_pbool,low_pints,low_pstrs,low_pbyte,low_pbytes];done)|simp [low_pu32,low_pu64,low_val,low_nilsl,low_sl,low_ep,low_agg,low_tup,low_fn,low_pint,low_pstr,low_pbool,low_pints,low_pstrs,low_pbyte,low_pbytes,low_pattrs,low_pdefs,low_pschema,low_pentry]))))|exact .inr (.inr ⟨_,_,rfl,rfl⟩))) ?_));exact RenQL.nil))))|((with_reducible refine SubR.ism ?_);refine SubR.setm ?_ rfl rfl (by (first|exact ⟨rfl,rfl,rfl,rfl,rfl⟩|exact RenM.low (by first|assumption|exact hlowm _|exact hlowm _ _)))))))
 ·intro k hk
  by_cases hlt:k < 4
  ·have hrd:=tc_readA D at_ k now h (by rw [hop];simp) ha (by omega)
   have hcp:copT D at_ (k+1)=copT D at_ k ++ (match readT D at_ k with
    |some x => [[pint k,pman x]]
    |none => []):=rfl
   refine jw0 ?_
   refine PWJ.of_pw ?_
   refine wk ?_
   refine jw0 ?_
   refine PWJ.of_pw ?_
   refine wk ?_
   refine jw0 ?_
   cases hrk:readT D at_ k with
   |none=>
    rw [hrk] at hrd hcp
    unfold readV at hrd
    simp only [Option.getD_none,Option.isSome_none,Option.getD_some,Option.isSome_some] at hrd
    refine PWJ.of_pw ?_
    refine wk ?_
    refine jw0 ?_
    refine PWJ.of_pw ?_
    refine wk ?_
    refine jw0 ?_
    refine PWJ.of_pw ?_
    refine wk ?_
    refine jw0 ?_
    refine loopJ (k+1) (by omega) (by omega) ?_ ?_
    ·try dsimp only
     (refine Sub.same ?_;(repeat (first|exact SubR.bot|((with_reducible refine SubR.isp ?_);refine SubR.put ?_ (by (first|exact .inl (ren_tC2 rfl)|exact .inl (ren_tC rfl)|exact .inl (.ptr _ _ rfl)|exact .inl (.msl _ _ _ _ rfl)|exact .inl (.mref _ rfl)|exact .inl (.low _ (by (first|exact low_mapI|exact low_mapS|exact low_mapB|assumption|exact hlow _|exact hlow _ _|exact Low.agg _ (low_map (fun _=>Low.val _) _)|(simp [low_pu32,low_pu64,low_val,low_nilsl,low_sl,low_ep,low_agg,low_tup,low_fn,low_pint,low_pstr,low_pbool,low_pints,low_pstrs,low_pbyte,low_pbytes,hlow];done)|(simp [low_pu32,low_pu64,low_val,low_nilsl,low_sl,low_ep,low_agg,low_tup,low_fn,low_pint,low_pstr,low_pbool,low_pints,low_pstrs,low_pbyte,low_pbytes];done)|simp [low_pu32,low_pu64,low_val,low_nilsl,low_sl,low_ep,low_agg,low_tup,low_fn,low_pint,low_pstr,low_pbool,low_pints,low_pstrs,low_pbyte,low_pbytes,low_pattrs,low_pdefs,low_pschema,low_pentry])))|exact .inr (.inl (.low _ (by (first|exact low_mapI|exact low_mapS|exact low_mapB|assumption|exact hlow _|exact hlow _ _|exact Low.agg _ (low_map (fun _=>Low.val _) _)|(simp [low_pu32,low_pu64,low_val,low_nilsl,low_sl,low_ep,low_agg,low_tup,low_fn,low_pint,low_pstr,low_pbool,low_pints,low_pstrs,low_pbyte,low_pbytes,hlow];done)|(simp [low_pu32,low_pu64,low_val,low_nilsl,low_sl,low_ep,low_agg,low_tup,low_fn,low_pint,low_pstr,low_pbool,low_pints,low_pstrs,low_pbyte,low_pbytes];done)|simp [low_pu32,low_pu64,low_val,low_nilsl,low_sl,low_ep,low_agg,low_tup,low_fn,low_pint,low_pstr,low_pbool,low_pints,low_pstrs,low_pbyte,low_pbytes,low_pattrs,low_pdefs,low_pschema,low_pentry]))))|exact .inr (.inr ⟨_,_,rfl,rfl⟩))))|((with_reducible refine SubR.isb ?_);refine SubR.setb ?_ rfl rfl (by (first|exact RenQL.low (by first|assumption|exact hlow _|exact hlow _ _|exact low_map (fun _=>Low.val _) _)|exact RenQL.lowE (by assumption) (low_map (fun _=>Low.val _) _)|((repeat (refine RenQL.cons (by (first|exact .inl (ren_tC2 rfl)|exact .inl (ren_tC rfl)|exact .inl (.ptr _ _ rfl)|exact .inl (.msl _ _ _ _ rfl)|exact .inl (.mref _ rfl)|exact .inl (.low _ (by (first|exact low_mapI|exact low_mapS|exact low_mapB|assumption|exact hlow _|exact hlow _ _|exact Low.agg _ (low_map (fun _=>Low.val _) _)|(simp [low_pu32,low_pu64,low_val,low_nilsl,low_sl,low_ep,low_agg,low_tup,low_fn,low_pint,low_pstr,low_pbool,low_pints,low_pstrs,low_pbyte,low_pbytes,hlow];done)|(simp [low_pu32,low_pu64,low_val,low_nilsl,low_sl,low_ep,low_agg,low_tup,low_fn,low_pint,low_pstr,low_pbool,low_pints,low_pstrs,low_pbyte,low_pbytes];done)|simp [low_pu32,low_pu64,low_val,low_nilsl,low_sl,low_ep,low_agg,low_tup,low_fn,low_pint,low_pstr,low_pbool,low_pints,low_pstrs,low_pbyte,low_pbytes,low_pattrs,low_pdefs,low_pschema,low_pentry])))|exact .inr (.inl (.low _ (by (first|exact low_mapI|exact low_mapS|exact low_mapB|assumption|exact hlow _|exact hlow _ _|exact Low.agg _ (low_map (fun _=>Low.val _) _)|(simp [low_pu32,low_pu64,low_val,low_nilsl,low_sl,low_ep,low_agg,low_tup,low_fn,low_pint,low_pstr,low_pbool,low_pints,low_pstrs,low_pbyte,low_pbytes,hlow];done)|(simp [low_pu32,low_pu64,low_val,low_nilsl,low_sl,low_ep,low_agg,low_tup,low_fn,low_pint,low_pstr,low_pbool,low_pints,low_pstrs,low_pbyte,low_pbytes];done)|simp [low_pu32,low_pu64,low_val,low_nilsl,low_sl,low_ep,low_agg,low_tup,low_fn,low_pint,low_pstr,low_pbool,low_pints,low_pstrs,low_pbyte,low_pbytes,low_pattrs,low_pdefs,low_pschema,low_pentry]))))|exact .inr (.inr ⟨_,_,rfl,rfl⟩))) ?_));exact RenQL.nil))))|((with_reducible refine SubR.ism ?_);refine SubR.setm ?_ rfl rfl (by (first|exact ⟨rfl,rfl,rfl,rfl,rfl⟩|exact RenM.low (by first|assumption|exact hlowm _|exact hlowm _ _)))))))
    ·simp only at hcp;rw [hcp,List.append_nil]
   |some m=>
    rw [hrk] at hrd hcp
    unfold readV at hrd
    simp only [Option.getD_none,Option.isSome_none,Option.getD_some,Option.isSome_some] at hrd
    have hlm:=low_pmanL m
    refine PWJ.of_pw ?_
    refine wk ?_
    refine jw0 ?_
    refine PWJ.regionG 5 (x := [pint k,pman m]) (d:=20) typeTab_ok hgiv hy hr (by kernel_rfl) (by rfl) (by rfl) ?_
    refine wk ?_
    refine ⟨⟨rfl,by decide,⟨_,_,rfl,rfl,rfl,rfl⟩,rfl,?_,?_,?_,?_⟩,fun b' => ?_⟩
    ·intro p hp
     simp only [List.mem_cons,List.not_mem_nil,or_false] at hp
     rcases hp with rfl|rfl
     ·exact .val _
     ·exact (low_pman m).2 trivial
    ·have:=copT_pre (D:=D) (at_:=at_) (show k+1≤4 by omega)
     rwa [hcp] at this
    ·show NoB _
     repeat (first|refine noB_put ?_|refine noB_setm ?_|refine noB_setb ?_ (by first|exact dB_noown _ _ _|exact dC_noown _|exact pman_noown _|simp [PV.ownB])|exact noB_bot)
    ·show NoM _
     have hdm:dM D = .map [] D.clock:=by unfold dM;rw [hop];rfl
     rw [hdm]
     repeat (first|refine noM_put ?_|refine noM_setb ?_|refine noM_setm ?_|exact noM_bot)
    cases b' with
    |true=>
     refine wk ?_
     refine jw0 ?_
     refine PWJ.of_pw ?_
     refine wk ?_
     refine jw0 ?_
     refine loopJ (k+1) (by omega) (by omega) ?_ ?_
     ·try dsimp only
      (refine Sub.same ?_;(repeat (first|exact SubR.bot|((with_reducible refine SubR.isp ?_);refine SubR.put ?_ (by (first|exact .inl (ren_tC2 rfl)|exact .inl (ren_tC rfl)|exact .inl (.ptr _ _ rfl)|exact .inl (.msl _ _ _ _ rfl)|exact .inl (.mref _ rfl)|exact .inl (.low _ (by (first|exact low_mapI|exact low_mapS|exact low_mapB|assumption|exact hlow _|exact hlow _ _|exact Low.agg _ (low_map (fun _=>Low.val _) _)|(simp [low_pu32,low_pu64,low_val,low_nilsl,low_sl,low_ep,low_agg,low_tup,low_fn,low_pint,low_pstr,low_pbool,low_pints,low_pstrs,low_pbyte,low_pbytes,hlow];done)|(simp [low_pu32,low_pu64,low_val,low_nilsl,low_sl,low_ep,low_agg,low_tup,low_fn,low_pint,low_pstr,low_pbool,low_pints,low_pstrs,low_pbyte,low_pbytes];done)|simp [low_pu32,low_pu64,low_val,low_nilsl,low_sl,low_ep,low_agg,low_tup,low_fn,low_pint,low_pstr,low_pbool,low_pints,low_pstrs,low_pbyte,low_pbytes,low_pattrs,low_pdefs,low_pschema,low_pentry])))|exact .inr (.inl (.low _ (by (first|exact low_mapI|exact low_mapS|exact low_mapB|assumption|exact hlow _|exact hlow _ _|exact Low.agg _ (low_map (fun _=>Low.val _) _)|(simp [low_pu32,low_pu64,low_val,low_nilsl,low_sl,low_ep,low_agg,low_tup,low_fn,low_pint,low_pstr,low_pbool,low_pints,low_pstrs,low_pbyte,low_pbytes,hlow];done)|(simp [low_pu32,low_pu64,low_val,low_nilsl,low_sl,low_ep,low_agg,low_tup,low_fn,low_pint,low_pstr,low_pbool,low_pints,low_pstrs,low_pbyte,low_pbytes];done)|simp [low_pu32,low_pu64,low_val,low_nilsl,low_sl,low_ep,low_agg,low_tup,low_fn,low_pint,low_pstr,low_pbool,low_pints,low_pstrs,low_pbyte,low_pbytes,low_pattrs,low_pdefs,low_pschema,low_pentry]))))|exact .inr (.inr ⟨_,_,rfl,rfl⟩))))|((with_reducible refine SubR.isb ?_);refine SubR.setb ?_ rfl rfl (by (first|exact RenQL.low (by first|assumption|exact hlow _|exact hlow _ _|exact low_map (fun _=>Low.val _) _)|exact RenQL.lowE (by assumption) (low_map (fun _=>Low.val _) _)|((repeat (refine RenQL.cons (by (first|exact .inl (ren_tC2 rfl)|exact .inl (ren_tC rfl)|exact .inl (.ptr _ _ rfl)|exact .inl (.msl _ _ _ _ rfl)|exact .inl (.mref _ rfl)|exact .inl (.low _ (by (first|exact low_mapI|exact low_mapS|exact low_mapB|assumption|exact hlow _|exact hlow _ _|exact Low.agg _ (low_map (fun _=>Low.val _) _)|(simp [low_pu32,low_pu64,low_val,low_nilsl,low_sl,low_ep,low_agg,low_tup,low_fn,low_pint,low_pstr,low_pbool,low_pints,low_pstrs,low_pbyte,low_pbytes,hlow];done)|(simp [low_pu32,low_pu64,low_val,low_nilsl,low_sl,low_ep,low_agg,low_tup,low_fn,low_pint,low_pstr,low_pbool,low_pints,low_pstrs,low_pbyte,low_pbytes];done)|simp [low_pu32,low_pu64,low_val,low_nilsl,low_sl,low_ep,low_agg,low_tup,low_fn,low_pint,low_pstr,low_pbool,low_pints,low_pstrs,low_pbyte,low_pbytes,low_pattrs,low_pdefs,low_pschema,low_pentry])))|exact .inr (.inl (.low _ (by (first|exact low_mapI|exact low_mapS|exact low_mapB|assumption|exact hlow _|exact hlow _ _|exact Low.agg _ (low_map (fun _=>Low.val _) _)|(simp [low_pu32,low_pu64,low_val,low_nilsl,low_sl,low_ep,low_agg,low_tup,low_fn,low_pint,low_pstr,low_pbool,low_pints,low_pstrs,low_pbyte,low_pbytes,hlow];done)|(simp [low_pu32,low_pu64,low_val,low_nilsl,low_sl,low_ep,low_agg,low_tup,low_fn,low_pint,low_pstr,low_pbool,low_pints,low_pstrs,low_pbyte,low_pbytes];done)|simp [low_pu32,low_pu64,low_val,low_nilsl,low_sl,low_ep,low_agg,low_tup,low_fn,low_pint,low_pstr,low_pbool,low_pints,low_pstrs,low_pbyte,low_pbytes,low_pattrs,low_pdefs,low_pschema,low_pentry]))))|exact .inr (.inr ⟨_,_,rfl,rfl⟩))) ?_));exact RenQL.nil))))|((with_reducible refine SubR.ism ?_);refine SubR.setm ?_ rfl rfl (by (first|exact ⟨rfl,rfl,rfl,rfl,rfl⟩|exact RenM.low (by first|assumption|exact hlowm _|exact hlowm _ _)))))))
     ·simp only [if_true];simp only at hcp;rw [hcp]
    |false=>
     refine wk ?_
     refine jw0 ?_
     exact ⟨⟨⟨_,rfl⟩,fun xs e=>by simp at e⟩,⟨⟨rfl,rfl⟩,⟨rfl,rfl⟩,trivial⟩,⟨⟨rfl,rfl⟩,trivial⟩⟩
  ·obtain rfl:k=4:=by omega
   refine jw0 ?_
   refine PWJ.of_pw ?_
   refine wk ?_
   refine jw0 ?_
   refine ⟨⟨⟨_,rfl⟩,fun xs e=>by cases e;rfl⟩,?_,?_⟩
   ·exact ⟨⟨rfl,rfl⟩,⟨rfl,rfl⟩,trivial⟩
   ·exact ⟨⟨rfl,rfl⟩,trivial⟩
def copX (y:Nat×PMan):List PV := [pint y.1,pman y.2]
theorem copT_eq (D:DM) (at_:Nat):copT D at_ 4=(copiesM (readT D at_)).map copX:=by
 have h:∀n,copT D at_ n=((List.range n).filterMap fun k=>(readT D at_ k).map fun m=>(k,m)).map copX:=by
  intro n
  induction n with
  |zero=>rfl
  |succ n ih=>
   rw [copT,ih,List.range_succ,List.filterMap_append,List.map_append]
   congr 1
   cases hr:readT D at_ n with
   |none=>simp [hr]
   |some x=>simp [hr,copX]
 exact h 4
theorem pre_x {C:List (Nat×PMan)} {pre:List (List PV)} {x:List PV} (h:Pre (C.map copX) (pre ++ [x])):∃j y,C[j]? = some y∧x=copX y∧pre.length=j∧j < C.length:=by
 obtain ⟨r,hr⟩:=h
 have hj:(C.map copX)[pre.length]? = some x:=by rw [hr];simp
 rw [List.getElem?_map] at hj
 cases hc:C[pre.length]? with
 |none=>rw [hc] at hj;cases hj
 |some y=>
  rw [hc] at hj
  cases hj
  exact ⟨pre.length,y,hc,rfl,rfl,(List.getElem?_eq_some_iff.1 hc).1⟩
theorem hcalls_weakA {P:Program} {f:FuncId} {args args' : List PV} {given res:List (Nat×List PV)} {gm rm:List (Nat×PMap)} {r:PV} (h:HCalls P f args given gm r res rm) (hw:WeakL args' args):HCalls P f args' given gm r res rm:=
 ⟨h.1,fun Φ μ ω w vs himm hgl hrep=>h.2 Φ μ ω w vs himm hgl ⟨hrep.1.trans hw.len,fun j p v h1 h2=>by
  obtain ⟨q,h3,h4⟩:=hw.get j p h1
  exact h4.1 _ _ _ (hrep.2 j q v h3 h2)⟩⟩
theorem pw_older (a b:PMan):PCalls Tryd.prog 23 [pman a,pman b] (· = pbool (decide (a.ver < b.ver))):=by
 have h1:=low_pmanL a
 have h2:=low_pmanL b
 refine pcalls_of_pw typeTab_ok Tryd.func23 rfl (by kernel_rfl) (by simp [(low_pman _).2 trivial]) (by simp [pman,PV.ownB]) (Nat.le_of_ble_eq_true rfl) ?_
 refine wk ?_
 by_cases h:a.ver < b.ver
 ·refine wk ?_
  exact retP (r:=pbool true) rfl (.val _) (by rw [decide_eq_true h])
 ·refine wk ?_
  exact retP (r:=pbool false) rfl (.val _) (by rw [decide_eq_false h])
def bestP (C:List (Nat×PMan)) (j:Nat):PMan:=(C.take j).foldl (fun x y=>newerM x y.2) zeroM
theorem bestP_succ {C:List (Nat×PMan)} {j:Nat} {y:Nat×PMan} (h:C[j]? = some y):bestP C (j+1)=newerM (bestP C j) y.2:=by
 unfold bestP
 rw [List.take_add_one,h,List.foldl_append]
 rfl
end
end Go.Proofs.YtmeekbjhpidcgaaDoor
