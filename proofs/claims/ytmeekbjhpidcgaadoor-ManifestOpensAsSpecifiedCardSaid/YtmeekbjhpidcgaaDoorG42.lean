/- Out of: Tv. -/
import Derived.Test.YtmeekbjhpidcgaaDoorG38
import Derived.Test.YtmeekbjhpidcgaaDoorG39
namespace Go.Proofs.YtmeekbjhpidcgaaDoor
set_option linter.unusedSimpArgs false
set_option linter.unusedVariables false
set_option linter.unnecessarySimpa false
section
open Go.RowKit
theorem hcalls_weakG {P:Program} {f:FuncId} {args:List PV} {id:Nat} {bs cs:List PV} {given res:List (Nat×List PV)} {gm rm:List (Nat×PMap)} {r:PV} (h:HCalls P f args ((id,cs) :: given) gm r res rm) (hw:WeakL bs cs):HCalls P f args ((id,bs) :: given) gm r res rm:=
 ⟨h.1,fun Φ μ ω w vs himm hgl hrep hg=>h.2 Φ μ ω w vs himm hgl hrep (fun x hx=>by
  rcases List.mem_cons.1 hx with rfl|hx
  ·exact (hg (id,bs) (List.mem_cons_self ..)).weak hw
  ·exact hg x (List.mem_cons_of_mem _ hx))⟩
set_option maxRecDepth 10000 in
set_option maxHeartbeats 1000000 in
theorem tc_copiesB1 (D:DM) (at_:Nat) (now:PMan):HCalls Tryd.prog 22 [.ptr 1000004 0] (tG 1000004 1000001 1000002 1000003 at_ now D) (dMs 1000003 D) (.fn 38 [.ep [.ptr 1000004 0] 0]) (tG 1000004 1000001 1000002 1000003 at_ now D) (dMs 1000003 D):=by
 have hlr:Low (prefs now.refs):=(low_prefs _).2 trivial
 have hlt:Low (pints now.notes):=(low_pints _).2 trivial
 have c1:=dC_low D
 have c2:=dM_low D
 refine th_of_pw Tryd.func22 rfl rfl (by intro p hp;rcases List.mem_cons.1 hp with rfl|hp;exact .ptr _ _ (by simp);cases hp) (by simp [PV.ownB]) (Nat.le_of_ble_eq_true rfl) (.fn _ _ (fun c hc=>by rw [List.mem_singleton] at hc;subst hc;exact .ep _ _ (fun c hc=>by rw [List.mem_singleton] at hc;subst hc;exact .ptr _ _ (by simp)))) ?_
 refine wg ?_
 refine PW.region typeTab_ok (by kernel_rfl) ?_
 refine wg ?_
 refine PW.freezeI (id:=0) (s:=1) (off:=0) (σ':=(((bot.setb 1000004 (tC 1000001 at_ now)).setb 1000001 (dB 1000002 1000003 D)).setb 1000002 (dC D)).setm 1000003 (dM D)) rfl rfl ?_ (by (repeat (first|exact SubR.bot|((with_reducible refine SubR.isp ?_);refine SubR.put ?_ (by (first|exact .inl (ren_tC rfl)|exact .inl (.ptr _ _ rfl)|exact .inl (.msl _ _ _ _ rfl)|exact .inl (.mref _ rfl)|exact .inl (.low _ (by (first|exact low_mapI|exact low_mapS|exact low_mapB|assumption|exact hlow _|exact hlow _ _|exact Low.agg _ (low_map (fun _=>Low.val _) _)|(simp [low_pu32,low_pu64,low_val,low_nilsl,low_sl,low_ep,low_agg,low_tup,low_fn,low_pint,low_pstr,low_pbool,low_pints,low_pstrs,low_pbyte,low_pbytes,hlow];done)|(simp [low_pu32,low_pu64,low_val,low_nilsl,low_sl,low_ep,low_agg,low_tup,low_fn,low_pint,low_pstr,low_pbool,low_pints,low_pstrs,low_pbyte,low_pbytes];done)|simp [low_pu32,low_pu64,low_val,low_nilsl,low_sl,low_ep,low_agg,low_tup,low_fn,low_pint,low_pstr,low_pbool,low_pints,low_pstrs,low_pbyte,low_pbytes,low_pattrs,low_pdefs,low_pschema,low_pentry])))|exact .inr (.inl (.low _ (by (first|exact low_mapI|exact low_mapS|exact low_mapB|assumption|exact hlow _|exact hlow _ _|exact Low.agg _ (low_map (fun _=>Low.val _) _)|(simp [low_pu32,low_pu64,low_val,low_nilsl,low_sl,low_ep,low_agg,low_tup,low_fn,low_pint,low_pstr,low_pbool,low_pints,low_pstrs,low_pbyte,low_pbytes,hlow];done)|(simp [low_pu32,low_pu64,low_val,low_nilsl,low_sl,low_ep,low_agg,low_tup,low_fn,low_pint,low_pstr,low_pbool,low_pints,low_pstrs,low_pbyte,low_pbytes];done)|simp [low_pu32,low_pu64,low_val,low_nilsl,low_sl,low_ep,low_agg,low_tup,low_fn,low_pint,low_pstr,low_pbool,low_pints,low_pstrs,low_pbyte,low_pbytes,low_pattrs,low_pdefs,low_pschema,low_pentry]))))|exact .inr (.inr ⟨_,_,rfl,rfl⟩))))|((with_reducible refine SubR.isb ?_);refine SubR.setb ?_ rfl rfl (by (first|exact RenQL.low (by first|assumption|exact hlow _|exact hlow _ _|exact low_map (fun _=>Low.val _) _)|exact RenQL.lowE (by assumption) (low_map (fun _=>Low.val _) _)|((repeat (refine RenQL.cons (by (first|exact .inl (ren_tC rfl)|exact .inl (.ptr _ _ rfl)|exact .inl (.msl _ _ _ _ rfl)|exact .inl (.mref _ rfl)|exact .inl (.low _ (by (first|exact low_mapI|exact low_mapS|exact low_mapB|assumption|exact hlow _|exact hlow _ _|exact Low.agg _ (low_map (fun _=>Low.val _) _)|(simp [low_pu32,low_pu64,low_val,low_nilsl,low_sl,low_ep,low_agg,low_tup,low_fn,low_pint,low_pstr,low_pbool,low_pints,low_pstrs,low_pbyte,low_pbytes,hlow];done)|(simp [low_pu32,low_pu64,low_val,low_nilsl,low_sl,low_ep,low_agg,low_tup,low_fn,low_pint,low_pstr,low_pbool,low_pints,low_pstrs,low_pbyte,low_pbytes];done)|simp [low_pu32,low_pu64,low_val,low_nilsl,low_sl,low_ep,low_agg,low_tup,low_fn,low_pint,low_pstr,low_pbool,low_pints,low_pstrs,low_pbyte,low_pbytes,low_pattrs,low_pdefs,low_pschema,low_pentry])))|exact .inr (.inl (.low _ (by (first|exact low_mapI|exact low_mapS|exact low_mapB|assumption|exact hlow _|exact hlow _ _|exact Low.agg _ (low_map (fun _=>Low.val _) _)|(simp [low_pu32,low_pu64,low_val,low_nilsl,low_sl,low_ep,low_agg,low_tup,low_fn,low_pint,low_pstr,low_pbool,low_pints,low_pstrs,low_pbyte,low_pbytes,hlow];done)|(simp [low_pu32,low_pu64,low_val,low_nilsl,low_sl,low_ep,low_agg,low_tup,low_fn,low_pint,low_pstr,low_pbool,low_pints,low_pstrs,low_pbyte,low_pbytes];done)|simp [low_pu32,low_pu64,low_val,low_nilsl,low_sl,low_ep,low_agg,low_tup,low_fn,low_pint,low_pstr,low_pbool,low_pints,low_pstrs,low_pbyte,low_pbytes,low_pattrs,low_pdefs,low_pschema,low_pentry]))))|exact .inr (.inr ⟨_,_,rfl,rfl⟩))) ?_));exact RenQL.nil))))|((with_reducible refine SubR.ism ?_);refine SubR.setm ?_ rfl rfl (by (first|exact ⟨rfl,rfl,rfl,rfl,rfl⟩|exact RenM.low (by first|assumption|exact hlowm _|exact hlowm _ _))))))) rfl ?_
 ·intro c hc
  rw [List.mem_singleton] at hc
  subst hc
  exact .ptr _ _ rfl
 refine wk ?_
 exact RetH.mk rfl (Weak.refl _) ⟨⟨_,rfl,WeakL.refl _⟩,⟨_,rfl,WeakL.refl _⟩,⟨_,rfl,WeakL.refl _⟩,trivial⟩ ⟨⟨rfl,rfl⟩,trivial⟩
def tIds (t d c m:Nat):List (Nat×Nat) := [(1000004,t),(1000001,d),(1000002,c),(1000003,m)]
theorem ren_tCL {ρ:Nat→Nat} {S:Nat→Prop} {d at_:Nat} {now:PMan} (h:S d):RenL ρ S (tC d at_ now) (tC (ρ d) at_ now):=
 .cons (.ptr _ _ h) (.cons (.low _ (.val _)) (.cons (.low _ (.val _)) (.cons (.low _ ((low_pints _).2 trivial)) (.cons (.low _ ((low_prefs _).2 trivial)) .nil))))
theorem th_at {f:FuncId} {args args' : List PV} {D D' : DM} {r r' : PV} {at_:Nat} {now now' : PMan} (h:HCalls Tryd.prog f args (tG 1000004 1000001 1000002 1000003 at_ now D) (dMs 1000003 D) r (tG 1000004 1000001 1000002 1000003 at_ now' D') (dMs 1000003 D')) (t d c m:Nat) (hd:([t,d,c,m]:List Nat).Nodup)
  (ha:RenL (renN (tIds t d c m)) (fun i=>i ∈ [1000004,1000001,1000002,1000003]) args args') (hr:Ren (renN (tIds t d c m)) (fun i=>i ∈ [1000004,1000001,1000002,1000003]) r r'):HCalls Tryd.prog f args' (tG t d c m at_ now D) (dMs m D) r' (tG t d c m at_ now' D') (dMs m D'):=by
 have e:∀now D,ResIds (tG 1000004 1000001 1000002 1000003 at_ now D) (dMs 1000003 D) = [1000004,1000001,1000002,1000003]:=fun _ _=>rfl
 have hB:∀now D,RenB (renN (tIds t d c m)) (fun i=>i ∈ [1000004,1000001,1000002,1000003]) (tG 1000004 1000001 1000002 1000003 at_ now D) (tG t d c m at_ now D):=fun now D=>by
  refine RenB.cons _ _ _ _ _ (ren_tCL (ρ:=renN (tIds t d c m)) (by simp)) (RenB.cons _ _ _ _ _ ?_ (RenB.cons _ _ _ _ _ (RenL.low (dC_low _)) RenB.nil))
  exact .cons (.msl _ _ _ _ (by simp)) (.cons (.mref _ (by simp)) (.cons (.low _ (.val _)) (.cons (.low _ (.val _)) (.cons (.low _ (.val _)) .nil))))
 have hM:∀D,RenMs (renN (tIds t d c m)) (fun i=>i ∈ [1000004,1000001,1000002,1000003]) (dMs 1000003 D) (dMs m D):=fun D=>RenMs.cons _ _ _ _ _ (RenM.low (dM_low _)) RenMs.nil
 exact h.at (tIds t d c m) (by simpa [tIds] using hd) (by rw [e];simp [tIds]) (by simp [tG,dG]) (by simp [dMs]) (by rw [e];exact ha) (by rw [e];exact hB _ _) (by rw [e];exact hM _) (by rw [e];exact hr) (by rw [e];exact hB _ _) (by rw [e];exact hM _)
theorem tC_noown (d at_:Nat) (m:PMan):∀x∈tC d at_ m,x.ownB=false:=by
 intro x hx
 simp only [tC,List.mem_cons,List.not_mem_nil,or_false] at hx
 rcases hx with rfl|rfl|rfl|rfl|rfl<;>rfl
theorem lend_tG {D:DM} (hop:D.op = []) {t d c m:Nat} (hd : [t,d,c,m].Nodup) (at_:Nat) (now:PMan):LentOK (tG t d c m at_ now D) (dMs m D) where
 nd:=hd
 lowb:=by
  intro x hx
  simp only [tG,dG,List.mem_cons,List.not_mem_nil,or_false] at hx
  rcases hx with rfl|rfl|rfl
  ·exact tC_lowI (by simp [ResIds,tG,dG,dMs]) at_ now
  ·exact dB_lowI (by simp [ResIds,tG,dG,dMs]) (by simp [ResIds,tG,dG,dMs]) D
  ·exact fun p hp=>(dC_low D p hp).lowI
 lowm:=by
  intro x hx
  simp only [dMs,List.mem_cons,List.not_mem_nil,or_false] at hx
  subst hx
  exact fun e he=>⟨(dM_low D e he).1.lowI,(dM_low D e he).2.lowI⟩
 nob:=by
  intro x hx
  simp only [tG,dG,List.mem_cons,List.not_mem_nil,or_false] at hx
  rcases hx with rfl|rfl|rfl
  ·exact tC_noown _ _ _
  ·exact dB_noown _ _ _
  ·exact dC_noown D
 nom:=(lend_dG hop (show [d,c,m].Nodup from (List.nodup_cons.1 hd).2)).nom
theorem ren_ptr1 {S:Nat→Prop} {d:Nat} (h:S d):Ren (fun i=>i) S (.ep [.ptr d 0] 0) (.ep [.ptr d 0] 0):=by
 refine .ep 0 _ _ rfl fun j p q h1 h2=>?_
 rw [h1] at h2
 cases h2
 have hp:=mem_of_get h1
 rw [List.mem_singleton] at hp
 subst hp
 exact .ptr _ _ h
set_option maxRecDepth 10000 in
set_option maxHeartbeats 2000000 in
theorem it_copiesB (D:DM) (at_:Nat) (now:PMan) (h:D.cells.length≤1000000000) (hop:D.op = []) (ha:at_≤1000000000):ItSpecG Tryd.prog 38 [.ep [.ptr 1000004 0] 0] (tG 1000004 1000001 1000002 1000003 at_ now D) (dMs 1000003 D) (Pre (copT D at_ 4)) (· = copT D at_ 4):=by
 have hlr:Low (prefs now.refs):=(low_prefs _).2 trivial
 have hlt:Low (pints now.notes):=(low_pints _).2 trivial
 have c1:=dC_low D
 have c2:=dM_low D
 refine itspecG_of_pwj typeTab_ok Tryd.func38 rfl (by kernel_rfl) ?_ (by simp [PV.ownB]) (Nat.le_of_ble_eq_true rfl) (by simp [ResIds,tG,dG,dMs]) (lend_tG hop (by decide) at_ now) ?_
 ·intro p hp
  rw [List.mem_singleton] at hp
  subst hp
  exact .ep _ _ (fun c hc=>by rw [List.mem_singleton] at hc;subst hc;exact .ptr _ _ (by simp [ResIds,tG,dG,dMs]))
 intro Lb E Φ0 W l hgiv hy hr
 refine jw0 ?_
 refine PWJ.of_pw ?_
 refine wk ?_
 refine jw0 ?_
 refine PWJ.loop (fun k:Nat=>(((((((bot.setb 1000004 (tC 1000001 at_ now)).setb 1000001 (dB 1000002 1000003 D)).setb 1000002 (dC D)).setm 1000003 (dM D)).put 0 (.val (.func (.yield l) #[] #[]))).put 1 (.ep [.ptr 1000004 0] 0)).put 6 (pint k))) (fun k=>some (copT D at_ k)) (fun k=>k≤4) (fun k=>4 - k) 0 (by omega) ?_ rfl ?_
 ·(refine Sub.same ?_;(repeat (first|exact SubR.bot|((with_reducible refine SubR.isp ?_);refine SubR.put ?_ (by (first|exact .inl (ren_ptr1 rfl)|exact .inl (.ptr _ _ rfl)|exact .inl (.msl _ _ _ _ rfl)|exact .inl (.mref _ rfl)|exact .inl (.low _ (by (first|exact low_mapI|exact low_mapS|exact low_mapB|assumption|exact hlow _|exact hlow _ _|exact Low.agg _ (low_map (fun _=>Low.val _) _)|(simp [low_pu32,low_pu64,low_val,low_nilsl,low_sl,low_ep,low_agg,low_tup,low_fn,low_pint,low_pstr,low_pbool,low_pints,low_pstrs,low_pbyte,low_pbytes,hlow];done)|(simp [low_pu32,low_pu64,low_val,low_nilsl,low_sl,low_ep,low_agg,low_tup,low_fn,low_pint,low_pstr,low_pbool,low_pints,low_pstrs,low_pbyte,low_pbytes];done)|simp [low_pu32,low_pu64,low_val,low_nilsl,low_sl,low_ep,low_agg,low_tup,low_fn,low_pint,low_pstr,low_pbool,low_pints,low_pstrs,low_pbyte,low_pbytes,low_pattrs,low_pdefs,low_pschema,low_pentry])))|exact .inr (.inl (.low _ (by (first|exact low_mapI|exact low_mapS|exact low_mapB|assumption|exact hlow _|exact hlow _ _|exact Low.agg _ (low_map (fun _=>Low.val _) _)|(simp [low_pu32,low_pu64,low_val,low_nilsl,low_sl,low_ep,low_agg,low_tup,low_fn,low_pint,low_pstr,low_pbool,low_pints,low_pstrs,low_pbyte,low_pbytes,hlow];done)|(simp [low_pu32,low_pu64,low_val,low_nilsl,low_sl,low_ep,low_agg,low_tup,low_fn,low_pint,low_pstr,low_pbool,low_pints,low_pstrs,low_pbyte,low_pbytes];done)|simp [low_pu32,low_pu64,low_val,low_nilsl,low_sl,low_ep,low_agg,low_tup,low_fn,low_pint,low_pstr,low_pbool,low_pints,low_pstrs,low_pbyte,low_pbytes,low_pattrs,low_pdefs,low_pschema,low_pentry]))))|exact .inr (.inr ⟨_,_,rfl,rfl⟩))))|((with_reducible refine SubR.isb ?_);refine SubR.setb ?_ rfl rfl (by exact rl0))|((with_reducible refine SubR.ism ?_);refine SubR.setm ?_ rfl rfl (by (first|exact ⟨rfl,rfl,rfl,rfl,rfl⟩|exact RenM.low (by first|assumption|exact hlowm _|exact hlowm _ _)))))))
 ·intro k hk
  by_cases hlt:k < 4
  ·have hrd:=tc_readB D at_ k now h (by rw [hop];simp) ha (by omega)
   have hcp:copT D at_ (k+1)=copT D at_ k ++ (match readT D at_ k with
    |some x => [[pint k,pman x]]
    |none => []):=rfl
   refine jw0 ?_
   refine PWJ.of_pw ?_
   refine wk ?_
   refine jw0 ?_
   refine PWJ.of_pw ?_
   refine wk ?_
   refine jw0 ?_
   cases hrk:readT D at_ k with
   |none=>
    rw [hrk] at hrd hcp
    unfold readV at hrd
    simp only [Option.getD_none,Option.isSome_none,Option.getD_some,Option.isSome_some] at hrd
    refine PWJ.of_pw ?_
    refine wk ?_
    refine jw0 ?_
    refine PWJ.of_pw ?_
    refine wk ?_
    refine jw0 ?_
    refine PWJ.of_pw ?_
    refine wk ?_
    refine jw0 ?_
    refine loopJ (k+1) (by omega) (by omega) ?_ ?_
    ·try dsimp only
     (refine Sub.same ?_;(repeat (first|exact SubR.bot|((with_reducible refine SubR.isp ?_);refine SubR.put ?_ (by (first|exact .inl (ren_ptr1 rfl)|exact .inl (.ptr _ _ rfl)|exact .inl (.msl _ _ _ _ rfl)|exact .inl (.mref _ rfl)|exact .inl (.low _ (by (first|exact low_mapI|exact low_mapS|exact low_mapB|assumption|exact hlow _|exact hlow _ _|exact Low.agg _ (low_map (fun _=>Low.val _) _)|(simp [low_pu32,low_pu64,low_val,low_nilsl,low_sl,low_ep,low_agg,low_tup,low_fn,low_pint,low_pstr,low_pbool,low_pints,low_pstrs,low_pbyte,low_pbytes,hlow];done)|(simp [low_pu32,low_pu64,low_val,low_nilsl,low_sl,low_ep,low_agg,low_tup,low_fn,low_pint,low_pstr,low_pbool,low_pints,low_pstrs,low_pbyte,low_pbytes];done)|simp [low_pu32,low_pu64,low_val,low_nilsl,low_sl,low_ep,low_agg,low_tup,low_fn,low_pint,low_pstr,low_pbool,low_pints,low_pstrs,low_pbyte,low_pbytes,low_pattrs,low_pdefs,low_pschema,low_pentry])))|exact .inr (.inl (.low _ (by (first|exact low_mapI|exact low_mapS|exact low_mapB|assumption|exact hlow _|exact hlow _ _|exact Low.agg _ (low_map (fun _=>Low.val _) _)|(simp [low_pu32,low_pu64,low_val,low_nilsl,low_sl,low_ep,low_agg,low_tup,low_fn,low_pint,low_pstr,low_pbool,low_pints,low_pstrs,low_pbyte,low_pbytes,hlow];done)|(simp [low_pu32,low_pu64,low_val,low_nilsl,low_sl,low_ep,low_agg,low_tup,low_fn,low_pint,low_pstr,low_pbool,low_pints,low_pstrs,low_pbyte,low_pbytes];done)|simp [low_pu32,low_pu64,low_val,low_nilsl,low_sl,low_ep,low_agg,low_tup,low_fn,low_pint,low_pstr,low_pbool,low_pints,low_pstrs,low_pbyte,low_pbytes,low_pattrs,low_pdefs,low_pschema,low_pentry]))))|exact .inr (.inr ⟨_,_,rfl,rfl⟩))))|((with_reducible refine SubR.isb ?_);refine SubR.setb ?_ rfl rfl (by exact rl0))|((with_reducible refine SubR.ism ?_);refine SubR.setm ?_ rfl rfl (by (first|exact ⟨rfl,rfl,rfl,rfl,rfl⟩|exact RenM.low (by first|assumption|exact hlowm _|exact hlowm _ _)))))))
    ·simp only at hcp;rw [hcp,List.append_nil]
   |some m=>
    rw [hrk] at hrd hcp
    unfold readV at hrd
    simp only [Option.getD_none,Option.isSome_none,Option.getD_some,Option.isSome_some] at hrd
    have hlm:=low_pmanL m
    refine PWJ.of_pw ?_
    refine wk ?_
    refine jw0 ?_
    refine PWJ.regionG 5 (x := [pint k,pman m]) (d:=20) typeTab_ok hgiv hy hr (by kernel_rfl) (by rfl) (by rfl) ?_
    refine wk ?_
    refine ⟨⟨rfl,by decide,⟨_,_,rfl,rfl,rfl,rfl⟩,rfl,?_,?_,?_,?_⟩,fun b' => ?_⟩
    ·intro p hp
     simp only [List.mem_cons,List.not_mem_nil,or_false] at hp
     rcases hp with rfl|rfl
     ·exact .val _
     ·exact (low_pman m).2 trivial
    ·have:=copT_pre (D:=D) (at_:=at_) (show k+1≤4 by omega)
     rwa [hcp] at this
    ·show NoB _
     repeat (first|refine noB_put ?_|refine noB_setm ?_|refine noB_setb ?_ (by first|exact tC_noown _ _ _|exact dB_noown _ _ _|exact dC_noown _|exact pman_noown _|simp [PV.ownB])|exact noB_bot)
    ·show NoM _
     have hdm:dM D = .map [] D.clock:=by unfold dM;rw [hop];rfl
     rw [hdm]
     repeat (first|refine noM_put ?_|refine noM_setb ?_|refine noM_setm ?_|exact noM_bot)
    cases b' with
    |true=>
     refine wk ?_
     refine jw0 ?_
     refine PWJ.of_pw ?_
     refine wk ?_
     refine jw0 ?_
     refine loopJ (k+1) (by omega) (by omega) ?_ ?_
     ·try dsimp only
      (refine Sub.same ?_;(repeat (first|exact SubR.bot|((with_reducible refine SubR.isp ?_);refine SubR.put ?_ (by (first|exact .inl (ren_ptr1 rfl)|exact .inl (.ptr _ _ rfl)|exact .inl (.msl _ _ _ _ rfl)|exact .inl (.mref _ rfl)|exact .inl (.low _ (by (first|exact low_mapI|exact low_mapS|exact low_mapB|assumption|exact hlow _|exact hlow _ _|exact Low.agg _ (low_map (fun _=>Low.val _) _)|(simp [low_pu32,low_pu64,low_val,low_nilsl,low_sl,low_ep,low_agg,low_tup,low_fn,low_pint,low_pstr,low_pbool,low_pints,low_pstrs,low_pbyte,low_pbytes,hlow];done)|(simp [low_pu32,low_pu64,low_val,low_nilsl,low_sl,low_ep,low_agg,low_tup,low_fn,low_pint,low_pstr,low_pbool,low_pints,low_pstrs,low_pbyte,low_pbytes];done)|simp [low_pu32,low_pu64,low_val,low_nilsl,low_sl,low_ep,low_agg,low_tup,low_fn,low_pint,low_pstr,low_pbool,low_pints,low_pstrs,low_pbyte,low_pbytes,low_pattrs,low_pdefs,low_pschema,low_pentry])))|exact .inr (.inl (.low _ (by (first|exact low_mapI|exact low_mapS|exact low_mapB|assumption|exact hlow _|exact hlow _ _|exact Low.agg _ (low_map (fun _=>Low.val _) _)|(simp [low_pu32,low_pu64,low_val,low_nilsl,low_sl,low_ep,low_agg,low_tup,low_fn,low_pint,low_pstr,low_pbool,low_pints,low_pstrs,low_pbyte,low_pbytes,hlow];done)|(simp [low_pu32,low_pu64,low_val,low_nilsl,low_sl,low_ep,low_agg,low_tup,low_fn,low_pint,low_pstr,low_pbool,low_pints,low_pstrs,low_pbyte,low_pbytes];done)|simp [low_pu32,low_pu64,low_val,low_nilsl,low_sl,low_ep,low_agg,low_tup,low_fn,low_pint,low_pstr,low_pbool,low_pints,low_pstrs,low_pbyte,low_pbytes,low_pattrs,low_pdefs,low_pschema,low_pentry]))))|exact .inr (.inr ⟨_,_,rfl,rfl⟩))))|((with_reducible refine SubR.isb ?_);refine SubR.setb ?_ rfl rfl (by exact rl0))|((with_reducible refine SubR.ism ?_);refine SubR.setm ?_ rfl rfl (by (first|exact ⟨rfl,rfl,rfl,rfl,rfl⟩|exact RenM.low (by first|assumption|exact hlowm _|exact hlowm _ _)))))))
     ·simp only [if_true];simp only at hcp;rw [hcp]
    |false=>
     refine wk ?_
     refine jw0 ?_
     exact ⟨⟨⟨_,rfl⟩,fun xs e=>by simp at e⟩,⟨⟨rfl,rfl⟩,⟨rfl,rfl⟩,⟨rfl,rfl⟩,trivial⟩,⟨⟨rfl,rfl⟩,trivial⟩⟩
  ·obtain rfl:k=4:=by omega
   refine jw0 ?_
   refine PWJ.of_pw ?_
   refine wk ?_
   refine jw0 ?_
   refine ⟨⟨⟨_,rfl⟩,fun xs e=>by cases e;rfl⟩,?_,?_⟩
   ·exact ⟨⟨rfl,rfl⟩,⟨rfl,rfl⟩,⟨rfl,rfl⟩,trivial⟩
   ·exact ⟨⟨rfl,rfl⟩,trivial⟩
set_option maxRecDepth 10000 in
set_option maxHeartbeats 2000000 in
theorem tc_bestB1 (D:DM) (at_:Nat) (now:PMan) (h:D.cells.length≤1000000000) (hop:D.op = []) (ha:at_≤1000000000):HCalls Tryd.prog 21 [.fn 38 [.ep [.ptr 1000004 0] 0],pman zeroM, .fn 23 []] (tG 1000004 1000001 1000002 1000003 at_ now D) (dMs 1000003 D) (pman (bestM (readT D at_))) (tG 1000004 1000001 1000002 1000003 at_ now D) (dMs 1000003 D):=by
 have hit:=it_copiesB D at_ now h hop ha
 rw [copT_eq] at hit
 obtain ⟨C,hC⟩:∃C,C=copiesM (readT D at_):=⟨_,rfl⟩
 have hbm:bestM (readT D at_)=bestP C C.length:=by rw [bestM,bestP,List.take_length,hC]
 rw [hbm]
 rw [←hC] at hit
 clear hbm hC
 have hlr:Low (prefs now.refs):=(low_prefs _).2 trivial
 have hlt:Low (pints now.notes):=(low_pints _).2 trivial
 have c1:=dC_low D
 have c2:=dM_low D
 have hln:=low_nilM
 have hlz:=low_pmanL zeroM
 have hfn:∀c ∈ [PV.fn 23 []],Low c:=fun c hc=>by rw [List.mem_singleton] at hc;subst hc;exact .fn _ _ (by simp)
 refine th_of_pw Tryd.func21 rfl (by kernel_rfl) ?_ (by simp [pman,PV.ownB]) (Nat.le_of_ble_eq_true rfl) ((low_pman _).2 trivial).lowI ?_
 ·intro p hp
  simp only [List.mem_cons,List.not_mem_nil,or_false] at hp
  rcases hp with rfl|rfl|rfl
  ·exact .fn _ _ (fun c hc=>by rw [List.mem_singleton] at hc;subst hc;exact .ep _ _ (fun c hc=>by rw [List.mem_singleton] at hc;subst hc;exact .ptr _ _ (by simp)))
  ·exact ((low_pman _).2 trivial).lowI
  ·exact .fn _ _ (by simp)
 refine wk ?_
 refine PW.rangeFuncG (A:=Pre (C.map copX)) (S:=(· = C.map copX)) 3000000 [3000002,3000001,3000000] (fun pre=>(((((bot.setb 3000000 (pmanL (bestP C pre.length))).setb 3000001 [.fn 23 []]).setb 3000002 nilM).put 4 (.ptr 3000000 0)).put 5 (.ptr 3000001 0)).put 6 (.ptr 3000002 0)) (fun _=>True) trivial rfl rfl hit (lend_tG hop (by decide) at_ now) ⟨⟨rfl,rfl⟩,⟨rfl,rfl⟩,⟨rfl,rfl⟩,trivial⟩ ⟨⟨rfl,rfl⟩,trivial⟩ (by simp [ResIds,tG,dG,dMs]) ?_ (fun pre=>by exact kn0) (by intro pre i hi;simp only [List.mem_cons,List.not_mem_nil,or_false] at hi;rcases hi with rfl|rfl|rfl|rfl|rfl<;>rfl) rfl (by decide) (fun pre=>?_) (by decide) ?_ ?_ ?_
 ·exact sbrF
 ·have hx1:∀c∈pmanL (bestP C pre.length),OwnsX c:=fun c hc=>ownsX_no (pman_noown _ c hc)
  have hx2:∀c∈nilM,OwnsX c:=fun c hc=>ownsX_no (by
   simp only [nilM,List.mem_cons,List.not_mem_nil,or_false] at hc
   rcases hc with rfl|rfl|rfl<;>rfl)
  exact ow0
 ·intro pre x hx
  obtain ⟨j,y,-,rfl,-⟩:=pre_x hx
  refine ⟨rfl,fun p hp=>?_⟩
  simp only [copX,List.mem_cons,List.not_mem_nil,or_false] at hp
  rcases hp with rfl|rfl
  ·exact ⟨.val _,rfl⟩
  ·exact ⟨(low_pman _).2 trivial,rfl⟩
 ·intro pre x _ hx
  obtain ⟨j,y,hj,rfl,rfl,hjl⟩:=pre_x hx
  have hb1:=bestP_succ hj
  have hold:=pw_older (bestP C pre.length) y.2
  have hl1:=low_pmanL (bestP C pre.length)
  have hl2:=low_pmanL y.2
  simp only [List.length_append,List.length_cons,List.length_nil,Nat.zero_add]
  rw [hb1]
  generalize bestP C pre.length=b at *
  obtain ⟨k,m⟩:=y
  unfold copX
  simp only [putps]
  simp only at hold hl2 ⊢
  refine wk ?_
  refine normP ?_
  by_cases hlt:b.ver < m.ver
  ·rw [show newerM b m=m from if_pos hlt]
   rw [decide_eq_true hlt] at hold
   refine wk ?_
   exact roundP trivial (by exact sb) (by exact lt0)
  ·rw [show newerM b m=b from if_neg hlt]
   rw [decide_eq_false hlt] at hold
   refine wk ?_
   exact roundP trivial (by exact sb) (by exact lt0)
 ·intro xs hxs _
  subst hxs
  rw [List.length_map]
  have hlb:=low_pmanL (bestP C C.length)
  generalize bestP C C.length=b at *
  refine ⟨(((((bot.setb 0 (pmanL b)).setb 1 [.fn 23 []]).setb 2 nilM).put 4 (.ptr 0 0)).put 5 (.ptr 1 0)).put 6 (.ptr 2 0),by exact sbrF,?_,?_⟩
  ·have hkn:∀i,Kn ((((((bot.setb 0 (pmanL b)).setb 1 [.fn 23 []]).setb 2 nilM).put 4 (.ptr 0 0)).put 5 (.ptr 1 0)).put 6 (.ptr 2 0)) i→i ∈ [2,1,0]:=by exact kn0
   intro i hi hk
   have h5:=hkn i hk
   simp [ResIds,tG,dG,dMs] at hi h5
   omega
  refine wk ?_
  exact RetH.mk rfl (Weak.refl _) ⟨⟨_,rfl,WeakL.refl _⟩,⟨_,rfl,WeakL.refl _⟩,⟨_,rfl,WeakL.refl _⟩,trivial⟩ ⟨⟨rfl,rfl⟩,trivial⟩
end
end Go.Proofs.YtmeekbjhpidcgaaDoor
