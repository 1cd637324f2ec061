/- Out of: Ty, Tz, Ua2. -/
import Derived.Test.YtmeekbjhpidcgaaDoorG33
import Derived.Test.YtmeekbjhpidcgaaDoorG40
import Derived.Test.YtmeekbjhpidcgaaDoorG42
namespace Go.Proofs.YtmeekbjhpidcgaaDoor
set_option linter.unusedSimpArgs false
set_option linter.unusedVariables false
set_option linter.unnecessarySimpa false
section
open Go.RowKit
theorem tC_lowK (D:DM) {at_:Nat} {m:PMan} : ∀c∈tC 1000001 at_ m,LowI (Kn (((bot.setb 1000001 (dB 1000002 1000003 D)).setb 1000002 (dC D)).setm 1000003 (dM D))) c:=by
 have h:Kn (((bot.setb 1000001 (dB 1000002 1000003 D)).setb 1000002 (dC D)).setm 1000003 (dM D)) 1000001:=rfl
 exact tC_lowI h at_ m
set_option maxRecDepth 10000 in
set_option maxHeartbeats 1000000 in
theorem tc_copiesA (D:DM) (at_:Nat) (now:PMan):HCalls Tryd.prog 22 [.ep (tC 1000001 at_ now) 0] (dG 1000001 1000002 1000003 D) (dMs 1000003 D) (.fn 38 [.ep [.ep (tC 1000001 at_ now) 0] 0]) (dG 1000001 1000002 1000003 D) (dMs 1000003 D):=by
 have c1:=dC_low D
 have c2:=dM_low D
 refine dh_of_pw Tryd.func22 rfl rfl (by intro p hp;rcases List.mem_cons.1 hp with rfl|hp;exact .ep _ _ (tC_lowI (by simp) at_ now);cases hp) (by simp [PV.ownB]) (Nat.le_of_ble_eq_true rfl) (.fn _ _ (fun c hc=>by rw [List.mem_singleton] at hc;subst hc;exact .ep _ _ (fun c hc=>by rw [List.mem_singleton] at hc;subst hc;exact .ep _ _ (tC_lowI (by simp) at_ now)))) ?_
 refine wg ?_
 refine PW.region typeTab_ok (by kernel_rfl) ?_
 refine wg ?_
 refine PW.freezeI (id:=0) (s:=1) (off:=0) (σ':=((bot.setb 1000001 (dB 1000002 1000003 D)).setb 1000002 (dC D)).setm 1000003 (dM D)) rfl rfl ?_ (by (repeat (first|exact SubR.bot|((with_reducible refine SubR.isp ?_);refine SubR.put ?_ (by (first|exact .inl (ren_tC rfl)|exact .inl (.ptr _ _ rfl)|exact .inl (.msl _ _ _ _ rfl)|exact .inl (.mref _ rfl)|exact .inl (.low _ (by (first|exact low_mapI|exact low_mapS|exact low_mapB|assumption|exact hlow _|exact hlow _ _|exact Low.agg _ (low_map (fun _=>Low.val _) _)|(simp [low_pu32,low_pu64,low_val,low_nilsl,low_sl,low_ep,low_agg,low_tup,low_fn,low_pint,low_pstr,low_pbool,low_pints,low_pstrs,low_pbyte,low_pbytes,hlow];done)|(simp [low_pu32,low_pu64,low_val,low_nilsl,low_sl,low_ep,low_agg,low_tup,low_fn,low_pint,low_pstr,low_pbool,low_pints,low_pstrs,low_pbyte,low_pbytes];done)|simp [low_pu32,low_pu64,low_val,low_nilsl,low_sl,low_ep,low_agg,low_tup,low_fn,low_pint,low_pstr,low_pbool,low_pints,low_pstrs,low_pbyte,low_pbytes,low_pattrs,low_pdefs,low_pschema,low_pentry])))|exact .inr (.inl (.low _ (by (first|exact low_mapI|exact low_mapS|exact low_mapB|assumption|exact hlow _|exact hlow _ _|exact Low.agg _ (low_map (fun _=>Low.val _) _)|(simp [low_pu32,low_pu64,low_val,low_nilsl,low_sl,low_ep,low_agg,low_tup,low_fn,low_pint,low_pstr,low_pbool,low_pints,low_pstrs,low_pbyte,low_pbytes,hlow];done)|(simp [low_pu32,low_pu64,low_val,low_nilsl,low_sl,low_ep,low_agg,low_tup,low_fn,low_pint,low_pstr,low_pbool,low_pints,low_pstrs,low_pbyte,low_pbytes];done)|simp [low_pu32,low_pu64,low_val,low_nilsl,low_sl,low_ep,low_agg,low_tup,low_fn,low_pint,low_pstr,low_pbool,low_pints,low_pstrs,low_pbyte,low_pbytes,low_pattrs,low_pdefs,low_pschema,low_pentry]))))|exact .inr (.inr ⟨_,_,rfl,rfl⟩))))|((with_reducible refine SubR.isb ?_);refine SubR.setb ?_ rfl rfl (by (first|exact RenQL.low (by first|assumption|exact hlow _|exact hlow _ _|exact low_map (fun _=>Low.val _) _)|exact RenQL.lowE (by assumption) (low_map (fun _=>Low.val _) _)|((repeat (refine RenQL.cons (by (first|exact .inl (ren_tC rfl)|exact .inl (.ptr _ _ rfl)|exact .inl (.msl _ _ _ _ rfl)|exact .inl (.mref _ rfl)|exact .inl (.low _ (by (first|exact low_mapI|exact low_mapS|exact low_mapB|assumption|exact hlow _|exact hlow _ _|exact Low.agg _ (low_map (fun _=>Low.val _) _)|(simp [low_pu32,low_pu64,low_val,low_nilsl,low_sl,low_ep,low_agg,low_tup,low_fn,low_pint,low_pstr,low_pbool,low_pints,low_pstrs,low_pbyte,low_pbytes,hlow];done)|(simp [low_pu32,low_pu64,low_val,low_nilsl,low_sl,low_ep,low_agg,low_tup,low_fn,low_pint,low_pstr,low_pbool,low_pints,low_pstrs,low_pbyte,low_pbytes];done)|simp [low_pu32,low_pu64,low_val,low_nilsl,low_sl,low_ep,low_agg,low_tup,low_fn,low_pint,low_pstr,low_pbool,low_pints,low_pstrs,low_pbyte,low_pbytes,low_pattrs,low_pdefs,low_pschema,low_pentry])))|exact .inr (.inl (.low _ (by (first|exact low_mapI|exact low_mapS|exact low_mapB|assumption|exact hlow _|exact hlow _ _|exact Low.agg _ (low_map (fun _=>Low.val _) _)|(simp [low_pu32,low_pu64,low_val,low_nilsl,low_sl,low_ep,low_agg,low_tup,low_fn,low_pint,low_pstr,low_pbool,low_pints,low_pstrs,low_pbyte,low_pbytes,hlow];done)|(simp [low_pu32,low_pu64,low_val,low_nilsl,low_sl,low_ep,low_agg,low_tup,low_fn,low_pint,low_pstr,low_pbool,low_pints,low_pstrs,low_pbyte,low_pbytes];done)|simp [low_pu32,low_pu64,low_val,low_nilsl,low_sl,low_ep,low_agg,low_tup,low_fn,low_pint,low_pstr,low_pbool,low_pints,low_pstrs,low_pbyte,low_pbytes,low_pattrs,low_pdefs,low_pschema,low_pentry]))))|exact .inr (.inr ⟨_,_,rfl,rfl⟩))) ?_));exact RenQL.nil))))|((with_reducible refine SubR.ism ?_);refine SubR.setm ?_ rfl rfl (by (first|exact ⟨rfl,rfl,rfl,rfl,rfl⟩|exact RenM.low (by first|assumption|exact hlowm _|exact hlowm _ _))))))) rfl ?_
 ·intro c hc
  rw [List.mem_singleton] at hc
  subst hc
  exact .ep _ _ (fun c hc=>tC_lowK D c hc)
 refine wk ?_
 exact RetH.mk rfl (Weak.refl _) ⟨⟨_,rfl,WeakL.refl _⟩,⟨_,rfl,WeakL.refl _⟩,trivial⟩ ⟨⟨rfl,rfl⟩,trivial⟩
def tW (at_:Nat) (m:PMan):List PV := [.undef,pint at_,pint m.ver,pints m.notes,prefs m.refs]
theorem tW_weak (d at_:Nat) (m:PMan):Weak (.ep [.ep (tC d at_ m) 0] 0) (.ep [.ep (tW at_ m) 0] 0):=
 .ep (.cons (.ep (.cons (.undef _) (WeakL.refl _))) .nil)
def spP (C:List (Nat×PMan)) (v f:Int) (j:Nat):Nat×Int×Int:=(C.take j).foldl (fun st y=>if y.2.ver=v then delN st.1 st.2.1 st.2.2 y.1 else st) (2,f,f+1)
theorem spP_succ {C:List (Nat×PMan)} {v f:Int} {j:Nat} {y:Nat×PMan} (h:C[j]? = some y):spP C v f (j+1)=if y.2.ver=v then delN (spP C v f j).1 (spP C v f j).2.1 (spP C v f j).2.2 y.1 else spP C v f j:=by
 unfold spP
 rw [List.take_add_one,h,List.foldl_append]
 rfl
theorem delN_le {n:Nat} {a b s:Int} (h:n≤2):(delN n a b s).1≤2:=by
 unfold delN;split
 ·split<;>simp
 ·split
  ·simp
  ·exact h
theorem spP_le (C:List (Nat×PMan)) (v f:Int) (j:Nat):(spP C v f j).1≤2:=by
 unfold spP
 generalize C.take j=l
 have h:∀(l:List (Nat×PMan)) (st:Nat×Int×Int),st.1≤2→(l.foldl (fun st y=>if y.2.ver=v then delN st.1 st.2.1 st.2.2 y.1 else st) st).1≤2:=by
  intro l
  induction l with
  |nil=>intro st h;exact h
  |cons y l ih=>
   intro st h
   rw [List.foldl_cons]
   refine ih _ ?_
   split
   ·exact delN_le h
   ·exact h
 exact h l _ (Nat.le_refl 2)
set_option maxRecDepth 10000 in
set_option maxHeartbeats 2000000 in
theorem tc_spoilt0 (D:DM) (at_:Nat) (now:PMan) (hv:now.ver=0):HCalls Tryd.prog 25 [.ep (tC 1000001 at_ now) 0] (dG 1000001 1000002 1000003 D) (dMs 1000003 D) .nilsl (dG 1000001 1000002 1000003 D) (dMs 1000003 D):=by
 have c1:=dC_low D
 have c2:=dM_low D
 refine dh_of_pw Tryd.func25 rfl (by kernel_rfl) (by intro p hp;rcases List.mem_cons.1 hp with rfl|hp;exact .ep _ _ (tC_lowI (by simp) at_ now);cases hp) (by simp [PV.ownB]) (Nat.le_of_ble_eq_true rfl) .nilsl ?_
 refine wg ?_
 refine PW.region typeTab_ok (by kernel_rfl) ?_
 refine wg ?_
 refine PW.freezeI (id:=0) (s:=1) (off:=0) (σ':=((bot.setb 1000001 (dB 1000002 1000003 D)).setb 1000002 (dC D)).setm 1000003 (dM D)) rfl rfl ?_ (by (repeat (first|exact SubR.bot|((with_reducible refine SubR.isp ?_);refine SubR.put ?_ (by (first|exact .inl (ren_tC rfl)|exact .inl (.ptr _ _ rfl)|exact .inl (.msl _ _ _ _ rfl)|exact .inl (.mref _ rfl)|exact .inl (.low _ (by (first|exact low_mapI|exact low_mapS|exact low_mapB|assumption|exact hlow _|exact hlow _ _|exact Low.agg _ (low_map (fun _=>Low.val _) _)|(simp [low_pu32,low_pu64,low_val,low_nilsl,low_sl,low_ep,low_agg,low_tup,low_fn,low_pint,low_pstr,low_pbool,low_pints,low_pstrs,low_pbyte,low_pbytes,hlow];done)|(simp [low_pu32,low_pu64,low_val,low_nilsl,low_sl,low_ep,low_agg,low_tup,low_fn,low_pint,low_pstr,low_pbool,low_pints,low_pstrs,low_pbyte,low_pbytes];done)|simp [low_pu32,low_pu64,low_val,low_nilsl,low_sl,low_ep,low_agg,low_tup,low_fn,low_pint,low_pstr,low_pbool,low_pints,low_pstrs,low_pbyte,low_pbytes,low_pattrs,low_pdefs,low_pschema,low_pentry])))|exact .inr (.inl (.low _ (by (first|exact low_mapI|exact low_mapS|exact low_mapB|assumption|exact hlow _|exact hlow _ _|exact Low.agg _ (low_map (fun _=>Low.val _) _)|(simp [low_pu32,low_pu64,low_val,low_nilsl,low_sl,low_ep,low_agg,low_tup,low_fn,low_pint,low_pstr,low_pbool,low_pints,low_pstrs,low_pbyte,low_pbytes,hlow];done)|(simp [low_pu32,low_pu64,low_val,low_nilsl,low_sl,low_ep,low_agg,low_tup,low_fn,low_pint,low_pstr,low_pbool,low_pints,low_pstrs,low_pbyte,low_pbytes];done)|simp [low_pu32,low_pu64,low_val,low_nilsl,low_sl,low_ep,low_agg,low_tup,low_fn,low_pint,low_pstr,low_pbool,low_pints,low_pstrs,low_pbyte,low_pbytes,low_pattrs,low_pdefs,low_pschema,low_pentry]))))|exact .inr (.inr ⟨_,_,rfl,rfl⟩))))|((with_reducible refine SubR.isb ?_);refine SubR.setb ?_ rfl rfl (by (first|exact RenQL.low (by first|assumption|exact hlow _|exact hlow _ _|exact low_map (fun _=>Low.val _) _)|exact RenQL.lowE (by assumption) (low_map (fun _=>Low.val _) _)|((repeat (refine RenQL.cons (by (first|exact .inl (ren_tC rfl)|exact .inl (.ptr _ _ rfl)|exact .inl (.msl _ _ _ _ rfl)|exact .inl (.mref _ rfl)|exact .inl (.low _ (by (first|exact low_mapI|exact low_mapS|exact low_mapB|assumption|exact hlow _|exact hlow _ _|exact Low.agg _ (low_map (fun _=>Low.val _) _)|(simp [low_pu32,low_pu64,low_val,low_nilsl,low_sl,low_ep,low_agg,low_tup,low_fn,low_pint,low_pstr,low_pbool,low_pints,low_pstrs,low_pbyte,low_pbytes,hlow];done)|(simp [low_pu32,low_pu64,low_val,low_nilsl,low_sl,low_ep,low_agg,low_tup,low_fn,low_pint,low_pstr,low_pbool,low_pints,low_pstrs,low_pbyte,low_pbytes];done)|simp [low_pu32,low_pu64,low_val,low_nilsl,low_sl,low_ep,low_agg,low_tup,low_fn,low_pint,low_pstr,low_pbool,low_pints,low_pstrs,low_pbyte,low_pbytes,low_pattrs,low_pdefs,low_pschema,low_pentry])))|exact .inr (.inl (.low _ (by (first|exact low_mapI|exact low_mapS|exact low_mapB|assumption|exact hlow _|exact hlow _ _|exact Low.agg _ (low_map (fun _=>Low.val _) _)|(simp [low_pu32,low_pu64,low_val,low_nilsl,low_sl,low_ep,low_agg,low_tup,low_fn,low_pint,low_pstr,low_pbool,low_pints,low_pstrs,low_pbyte,low_pbytes,hlow];done)|(simp [low_pu32,low_pu64,low_val,low_nilsl,low_sl,low_ep,low_agg,low_tup,low_fn,low_pint,low_pstr,low_pbool,low_pints,low_pstrs,low_pbyte,low_pbytes];done)|simp [low_pu32,low_pu64,low_val,low_nilsl,low_sl,low_ep,low_agg,low_tup,low_fn,low_pint,low_pstr,low_pbool,low_pints,low_pstrs,low_pbyte,low_pbytes,low_pattrs,low_pdefs,low_pschema,low_pentry]))))|exact .inr (.inr ⟨_,_,rfl,rfl⟩))) ?_));exact RenQL.nil))))|((with_reducible refine SubR.ism ?_);refine SubR.setm ?_ rfl rfl (by (first|exact ⟨rfl,rfl,rfl,rfl,rfl⟩|exact RenM.low (by first|assumption|exact hlowm _|exact hlowm _ _))))))) rfl ?_
 ·intro c hc
  rw [List.mem_singleton] at hc
  subst hc
  exact .ep _ _ (fun c hc=>tC_lowK D c hc)
 refine wk ?_
 exact RetH.mk rfl (Weak.refl _) ⟨⟨_,rfl,WeakL.refl _⟩,⟨_,rfl,WeakL.refl _⟩,trivial⟩ ⟨⟨rfl,rfl⟩,trivial⟩
set_option maxRecDepth 10000 in
set_option maxHeartbeats 2000000 in
theorem tc_spoiltA (D:DM) (at_:Nat) (now:PMan) (h:D.cells.length≤1000000000) (hop:D.op = []) (ha:at_≤1000000000) (hv:0 < now.ver) (hv2:now.ver≤1000000000) (C:List (Nat×PMan)) (hC:C=copiesM (readT D at_)) (n:Nat) (a b:Int) (hst:spP C now.ver (firstI now.ver) C.length=(n,a,b)) :
  HCalls Tryd.prog 25 [.ep (tC 1000001 at_ now) 0] (dG 1000001 1000002 1000003 D) (dMs 1000003 D) (.msl 4003 0 n 1) ((4003,[pint a,pint b]) :: dG 1000001 1000002 1000003 D) (dMs 1000003 D):=by
 have hit:=it_copies D at_ now h hop ha
 rw [copT_eq,←hC] at hit
 clear hC
 have c1:=dC_low D
 have c2:=dM_low D
 have hcp:=tc_copiesA D at_ now
 have hfi:=pw_first now.ver (by omega) hv2
 have hfr:0≤firstI now.ver∧firstI now.ver≤2:=by unfold firstI;omega
 have hab:∀a b,∀c ∈ [pint a,pint b],Low c:=by intro a b c hc;simp only [List.mem_cons,List.not_mem_nil,or_false] at hc;rcases hc with rfl|rfl<;>exact .val _
 have e1:ResIds (dG 1000001 1000002 1000003 D) (dMs 1000003 D) = [1000001,1000002,1000003]:=rfl
 have e2:ResIds ((4003,[pint a,pint b]) :: dG 1000001 1000002 1000003 D) (dMs 1000003 D) = [4003,1000001,1000002,1000003]:=rfl
 refine hcalls_of_pw typeTab_ok Tryd.func25 rfl (by kernel_rfl) (by simp [PV.ownB]) (Nat.le_of_ble_eq_true rfl) (by simp [ResIds,dG,dMs]) (by simp [ResIds,dG,dMs]) ⟨?_,?_,lm_cons c2 lm_nil,?_,?_,lm_cons c2 lm_nil,by simp [dG],by simp [dMs]⟩ ?_
 ·rw [e1];exact li_cons (.ep _ _ (tC_lowI (by simp) at_ now)) li_nil
 ·rw [e1];exact lb_cons (dB_lowI (by simp) (by simp) _) (lb_cons (li_low c1) lb_nil)
 ·rw [e2];exact .msl _ _ _ _ (by simp)
 ·rw [e2];exact lb_cons (li_low (hab a b)) (lb_cons (dB_lowI (by simp) (by simp) _) (lb_cons (li_low c1) lb_nil))
 have hf0:firstI now.ver=firstI now.ver:=rfl
 generalize firstI now.ver=f at *
 refine wg ?_
 refine PW.region typeTab_ok (by kernel_rfl) ?_
 refine wg ?_
 refine PW.freezeI (id:=0) (s:=1) (off:=0) (σ':=((bot.setb 1000001 (dB 1000002 1000003 D)).setb 1000002 (dC D)).setm 1000003 (dM D)) rfl rfl ?_ (by (repeat (first|exact SubR.bot|((with_reducible refine SubR.isp ?_);refine SubR.put ?_ (by (first|exact .inl (ren_tC rfl)|exact .inl (.ptr _ _ rfl)|exact .inl (.msl _ _ _ _ rfl)|exact .inl (.mref _ rfl)|exact .inl (.low _ (by (first|exact low_mapI|exact low_mapS|exact low_mapB|assumption|exact hlow _|exact hlow _ _|exact Low.agg _ (low_map (fun _=>Low.val _) _)|(simp [low_pu32,low_pu64,low_val,low_nilsl,low_sl,low_ep,low_agg,low_tup,low_fn,low_pint,low_pstr,low_pbool,low_pints,low_pstrs,low_pbyte,low_pbytes,hlow];done)|(simp [low_pu32,low_pu64,low_val,low_nilsl,low_sl,low_ep,low_agg,low_tup,low_fn,low_pint,low_pstr,low_pbool,low_pints,low_pstrs,low_pbyte,low_pbytes];done)|simp [low_pu32,low_pu64,low_val,low_nilsl,low_sl,low_ep,low_agg,low_tup,low_fn,low_pint,low_pstr,low_pbool,low_pints,low_pstrs,low_pbyte,low_pbytes,low_pattrs,low_pdefs,low_pschema,low_pentry])))|exact .inr (.inl (.low _ (by (first|exact low_mapI|exact low_mapS|exact low_mapB|assumption|exact hlow _|exact hlow _ _|exact Low.agg _ (low_map (fun _=>Low.val _) _)|(simp [low_pu32,low_pu64,low_val,low_nilsl,low_sl,low_ep,low_agg,low_tup,low_fn,low_pint,low_pstr,low_pbool,low_pints,low_pstrs,low_pbyte,low_pbytes,hlow];done)|(simp [low_pu32,low_pu64,low_val,low_nilsl,low_sl,low_ep,low_agg,low_tup,low_fn,low_pint,low_pstr,low_pbool,low_pints,low_pstrs,low_pbyte,low_pbytes];done)|simp [low_pu32,low_pu64,low_val,low_nilsl,low_sl,low_ep,low_agg,low_tup,low_fn,low_pint,low_pstr,low_pbool,low_pints,low_pstrs,low_pbyte,low_pbytes,low_pattrs,low_pdefs,low_pschema,low_pentry]))))|exact .inr (.inr ⟨_,_,rfl,rfl⟩))))|((with_reducible refine SubR.isb ?_);refine SubR.setb ?_ rfl rfl (by (first|exact RenQL.low (by first|assumption|exact hlow _|exact hlow _ _|exact low_map (fun _=>Low.val _) _)|exact RenQL.lowE (by assumption) (low_map (fun _=>Low.val _) _)|((repeat (refine RenQL.cons (by (first|exact .inl (ren_tC rfl)|exact .inl (.ptr _ _ rfl)|exact .inl (.msl _ _ _ _ rfl)|exact .inl (.mref _ rfl)|exact .inl (.low _ (by (first|exact low_mapI|exact low_mapS|exact low_mapB|assumption|exact hlow _|exact hlow _ _|exact Low.agg _ (low_map (fun _=>Low.val _) _)|(simp [low_pu32,low_pu64,low_val,low_nilsl,low_sl,low_ep,low_agg,low_tup,low_fn,low_pint,low_pstr,low_pbool,low_pints,low_pstrs,low_pbyte,low_pbytes,hlow];done)|(simp [low_pu32,low_pu64,low_val,low_nilsl,low_sl,low_ep,low_agg,low_tup,low_fn,low_pint,low_pstr,low_pbool,low_pints,low_pstrs,low_pbyte,low_pbytes];done)|simp [low_pu32,low_pu64,low_val,low_nilsl,low_sl,low_ep,low_agg,low_tup,low_fn,low_pint,low_pstr,low_pbool,low_pints,low_pstrs,low_pbyte,low_pbytes,low_pattrs,low_pdefs,low_pschema,low_pentry])))|exact .inr (.inl (.low _ (by (first|exact low_mapI|exact low_mapS|exact low_mapB|assumption|exact hlow _|exact hlow _ _|exact Low.agg _ (low_map (fun _=>Low.val _) _)|(simp [low_pu32,low_pu64,low_val,low_nilsl,low_sl,low_ep,low_agg,low_tup,low_fn,low_pint,low_pstr,low_pbool,low_pints,low_pstrs,low_pbyte,low_pbytes,hlow];done)|(simp [low_pu32,low_pu64,low_val,low_nilsl,low_sl,low_ep,low_agg,low_tup,low_fn,low_pint,low_pstr,low_pbool,low_pints,low_pstrs,low_pbyte,low_pbytes];done)|simp [low_pu32,low_pu64,low_val,low_nilsl,low_sl,low_ep,low_agg,low_tup,low_fn,low_pint,low_pstr,low_pbool,low_pints,low_pstrs,low_pbyte,low_pbytes,low_pattrs,low_pdefs,low_pschema,low_pentry]))))|exact .inr (.inr ⟨_,_,rfl,rfl⟩))) ?_));exact RenQL.nil))))|((with_reducible refine SubR.ism ?_);refine SubR.setm ?_ rfl rfl (by (first|exact ⟨rfl,rfl,rfl,rfl,rfl⟩|exact RenM.low (by first|assumption|exact hlowm _|exact hlowm _ _))))))) rfl ?_
 ·intro c hc
  rw [List.mem_singleton] at hc
  subst hc
  exact .ep _ _ (fun c hc=>tC_lowK D c hc)
 refine PW.region typeTab_ok (by kernel_rfl) ?_
 refine wg ?_
 refine PW.region typeTab_ok (by kernel_rfl) ?_
 refine wg ?_
 refine PW.region typeTab_ok (by kernel_rfl) ?_
 (refine ops0 ?_)
 (refine ops0 ?_)
 (refine ops0 ?_)
 refine PWops.bslM (cs := [pint f,pint (f+1)]) typeTab_ok rfl (fun _ _=>rfl) rfl rfl rfl rfl rfl rfl (by decide) rfl ?_
 refine wk ?_
 have hlw:Low (.ep [.ep (tW at_ now) 0] 0):=.ep _ _ (fun c hc=>by
  rw [List.mem_singleton] at hc;subst hc
  refine .ep _ _ (fun c hc=>?_)
  simp only [tW,List.mem_cons,List.not_mem_nil,or_false] at hc
  rcases hc with rfl|rfl|rfl|rfl|rfl
  ·exact .undef
  ·exact .val _
  ·exact .val _
  ·exact (low_pints _).2 trivial
  ·exact (low_prefs _).2 trivial)
 refine PW.weakT (s:=1) rfl (tW_weak 1000001 at_ now) ?_
 refine PW.rangeFuncG (A:=Pre (C.map copX)) (S:=(· = C.map copX)) 3000000 [3004004,3004003] (fun pre=>(((bot.setb 3004003 [pint (spP C now.ver f pre.length).2.1,pint (spP C now.ver f pre.length).2.2]).setb 3004004 [.msl 3004003 0 (spP C now.ver f pre.length).1 1]).put 1 (.ep [.ep (tW at_ now) 0] 0)).put 4 (.ptr 3004004 0)) (fun _=>True) trivial rfl rfl hit (lend_dG hop (by decide)) ⟨⟨rfl,rfl⟩,⟨rfl,rfl⟩,trivial⟩ ⟨⟨rfl,rfl⟩,trivial⟩ (by simp [ResIds,dG,dMs]) ?_ (fun pre=>by exact kn0) (by intro pre i hi;simp only [List.mem_cons,List.not_mem_nil,or_false] at hi;rcases hi with rfl|rfl|rfl|rfl|rfl<;>rfl) rfl (by decide) (fun pre=>?_) (by decide) ?_ ?_ ?_
 ·have h0:=hab f (f+1)
  exact sbrF
 ·have hx1:∀a b:Int,∀c ∈ [pint a,pint b],OwnsX c:=fun a b c hc=>ownsX_no (by
   simp only [List.mem_cons,List.not_mem_nil,or_false] at hc
   rcases hc with rfl|rfl<;>rfl)
  have hx2:=hx1 (spP C now.ver f pre.length).2.1 (spP C now.ver f pre.length).2.2
  exact ow0
 ·intro pre x hx
  obtain ⟨j,y,-,rfl,-⟩:=pre_x hx
  refine ⟨rfl,fun p hp=>?_⟩
  simp only [copX,List.mem_cons,List.not_mem_nil,or_false] at hp
  rcases hp with rfl|rfl
  ·exact ⟨.val _,rfl⟩
  ·exact ⟨(low_pman _).2 trivial,rfl⟩
 ·intro pre x _ hx
  obtain ⟨j,y,hj,rfl,rfl,hjl⟩:=pre_x hx
  have hb1:=spP_succ (v:=now.ver) (f:=f) hj
  have hle:=spP_le C now.ver f pre.length
  simp only [List.length_append,List.length_cons,List.length_nil,Nat.zero_add]
  rw [hb1]
  generalize spP C now.ver f pre.length=st at *
  obtain ⟨n1,a1,b1⟩:=st
  obtain ⟨k,m⟩:=y
  have hl2:=low_pmanL m
  have hl3:=hab a1 b1
  unfold copX
  simp only [putps]
  simp only at hle ⊢
  have hdel:=hc_del 3004003 n1 a1 b1 (k:Int) hle
  refine wk ?_
  refine normP ?_
  refine PW.freezeP (id:=6000) (s:=5) (off:=0) (σ':=(((((bot.setb 3004003 [pint a1,pint b1]).setb 3004004 [.msl 3004003 0 n1 1]).put 1 (.ep [.ep (tW at_ now) 0] 0)).put 4 (.ptr 3004004 0)).setb 7000 (pmanL m)).put 6 (.ptr 7000 0)) rfl rfl (fun c hc=>by rw [List.mem_singleton] at hc;subst hc;exact .val _) (by exact sbr0) rfl ?_
  by_cases hver:m.ver=now.ver
  ·simp only [if_pos hver]
   have hl4:=hab (delN n1 a1 b1 (k:Int)).2.1 (delN n1 a1 b1 (k:Int)).2.2
   generalize delN n1 a1 b1 (k:Int)=st2 at *
   obtain ⟨n2,a2,b2⟩:=st2
   simp only at hdel hl4 ⊢
   refine wk ?_
   exact roundP trivial (by exact sb) (by exact lt0)
  ·simp only [if_neg hver]
   refine wk ?_
   exact roundP trivial (by exact sb) (by exact lt0)
 ·intro xs hxs _
  subst hxs
  rw [List.length_map,hst]
  have hl3:=hab a b
  refine ⟨(((bot.setb 4003 [pint a,pint b]).setb 4004 [.msl 4003 0 n 1]).put 1 (.ep [.ep (tW at_ now) 0] 0)).put 4 (.ptr 4004 0),by exact sbrF,?_,?_⟩
  ·have hkn:∀i,Kn ((((bot.setb 4003 [pint a,pint b]).setb 4004 [.msl 4003 0 n 1]).put 1 (.ep [.ep (tW at_ now) 0] 0)).put 4 (.ptr 4004 0)) i→i ∈ [4004,4003]:=by exact kn0
   intro i hi hk
   have h5:=hkn i hk
   simp [ResIds,dG,dMs] at hi h5
   omega
  refine wk ?_
  exact RetH.mk rfl (Weak.refl _) ⟨⟨_,rfl,WeakL.refl _⟩,⟨_,rfl,WeakL.refl _⟩,⟨_,rfl,WeakL.refl _⟩,trivial⟩ ⟨⟨rfl,rfl⟩,trivial⟩
theorem dG_stands (D:DM):∀x∈dG 1000001 1000002 1000003 D,∀c∈x.2,Stands c:=by
 intro x hx
 simp only [dG,List.mem_cons,List.not_mem_nil,or_false] at hx
 rcases hx with rfl|rfl
 ·intro c hc
  simp only [dB,List.mem_cons,List.not_mem_nil,or_false] at hc
  rcases hc with rfl|rfl|rfl|rfl|rfl
  ·exact .inl (.msl _ _ _ _)
  ·exact .inl (.mref _)
  ·exact .inl (.val _)
  ·exact .inl (.val _)
  ·exact .inl (.val _)
 ·intro c hc
  obtain ⟨d,-,hc⟩:=List.mem_flatMap.1 hc
  unfold dcellL at hc
  rcases List.mem_append.1 hc with hc|hc
  ·unfold secL at hc
   obtain ⟨x,-,rfl⟩:=List.mem_map.1 hc;exact .inl (.val _)
  ·simp only [List.mem_cons,List.not_mem_nil,or_false] at hc;subst hc;exact .inl (.val _)
theorem dM_stands {D:DM} (hop:D.op = []):∀x∈dMs 1000003 D,∀es clock,x.2 = .map es clock→∀e∈es,FlatV e.2.1∧Stands e.2.2:=by
 intro x hx es clock e
 simp only [dMs,List.mem_cons,List.not_mem_nil,or_false] at hx
 subst hx
 unfold dM at e
 rw [hop] at e
 simp only [List.map_nil,PMap.map.injEq] at e
 rw [←e.1]
 simp
theorem tc_spoiltB0 (D:DM) (at_:Nat) (now:PMan) (hop:D.op = []) (hv:now.ver=0):HCalls Tryd.prog 25 [.ptr 1000004 0] (tG 1000004 1000001 1000002 1000003 at_ now D) (dMs 1000003 D) .nilsl (tG 1000004 1000001 1000002 1000003 at_ now D) (dMs 1000003 D):=by
 have e:ResIds (dG 1000001 1000002 1000003 D) (dMs 1000003 D) = [1000001,1000002,1000003]:=rfl
 exact (tc_spoilt0 D at_ now hv).lend (id:=1000004) (cs:=tC 1000001 at_ now) (.cons (.ptr 0) .nil) (by rw [e];decide) (by rw [e];decide) (fun i hi=>hi) (tC_lowI (by rw [e];decide) at_ now) (tC_noown _ _ _) (.inl .nilsl) (dG_stands D) (dM_stands hop)
theorem tc_spoiltB (D:DM) (at_:Nat) (now:PMan) (h:D.cells.length≤1000000000) (hop:D.op = []) (ha:at_≤1000000000) (hv:0 < now.ver) (hv2:now.ver≤1000000000) (n:Nat) (a b:Int) (hst:spP (copiesM (readT D at_)) now.ver (firstI now.ver) (copiesM (readT D at_)).length=(n,a,b)) :
  HCalls Tryd.prog 25 [.ptr 1000004 0] (tG 1000004 1000001 1000002 1000003 at_ now D) (dMs 1000003 D) (.msl 4003 0 n 1) ((1000004,tC 1000001 at_ now) :: (4003,[pint a,pint b]) :: dG 1000001 1000002 1000003 D) (dMs 1000003 D):=by
 have e:ResIds (dG 1000001 1000002 1000003 D) (dMs 1000003 D) = [1000001,1000002,1000003]:=rfl
 have e2:ResIds ((4003,[pint a,pint b]) :: dG 1000001 1000002 1000003 D) (dMs 1000003 D) = [4003,1000001,1000002,1000003]:=rfl
 exact (tc_spoiltA D at_ now h hop ha hv hv2 _ rfl n a b hst).lend (id:=1000004) (cs:=tC 1000001 at_ now) (.cons (.ptr 0) .nil) (by rw [e];decide) (by rw [e2];decide) (fun i hi=>by rw [e] at hi;rw [e2];exact List.mem_cons_of_mem _ hi) (tC_lowI (by rw [e];decide) at_ now) (tC_noown _ _ _) (.inl (.msl _ _ _ _)) (fun x hx=>by
  rcases List.mem_cons.1 hx with rfl|hx
  ·intro c hc
   simp only [List.mem_cons,List.not_mem_nil,or_false] at hc
   rcases hc with rfl|rfl<;>exact .inl (.val _)
  ·exact dG_stands D x hx) (dM_stands hop)
set_option maxRecDepth 10000 in
set_option maxHeartbeats 1000000 in
theorem tc_Copies1 (D:DM) (at_:Nat) (now:PMan) (h:D.cells.length≤1000000000) (hop:D.op = []) (ha:at_≤1000000000) (hdead:D.dead=false) (hv:0 < now.ver) (hv2:now.ver≤1000000000) (n:Nat) (a b:Int) (hst:spP (copiesM (readT D at_)) now.ver (firstI now.ver) (copiesM (readT D at_)).length=(n,a,b)) :
  HCalls Tryd.prog 9 [.ptr 1000004 0] (tG 1000004 1000001 1000002 1000003 at_ now D) (dMs 1000003 D) (pint (2 - n)) (tG 1000004 1000001 1000002 1000003 at_ now D) (dMs 1000003 D):=by
 have hn2:n≤2:=by have:=spP_le (copiesM (readT D at_)) now.ver (firstI now.ver) (copiesM (readT D at_)).length;rw [hst] at this;exact this
 have hlr:Low (prefs now.refs):=(low_prefs _).2 trivial
 have hlt:Low (pints now.notes):=(low_pints _).2 trivial
 have c1:=dC_low D
 have c2:=dM_low D
 have hsp:=tc_spoiltB D at_ now h hop ha hv hv2 n a b hst
 have hdn:=dc_Down D 1000001 1000002 1000003 (by decide)
 rw [hdead] at hdn
 refine th_of_pw Tryd.func9 rfl rfl (by intro p hp;rcases List.mem_cons.1 hp with rfl|hp;exact .ptr _ _ (by simp);cases hp) (by simp [PV.ownB]) (Nat.le_of_ble_eq_true rfl) (.val _) ?_
 refine wk ?_
 exact RetH.mk rfl (Weak.refl _) ⟨⟨_,rfl,WeakL.refl _⟩,⟨_,rfl,WeakL.refl _⟩,⟨_,rfl,WeakL.refl _⟩,trivial⟩ ⟨⟨rfl,rfl⟩,trivial⟩
set_option maxRecDepth 10000 in
set_option maxHeartbeats 1000000 in
theorem tc_TurnE1 (D:DM) (at_:Nat) (now m:PMan) (hv:m.ver=now.ver+1) (hv0:0≤now.ver∧now.ver < 1000000000) (hc:checkM 2 3 m≠0) (hcl:CloM m):HCalls Tryd.prog 10 [.ptr 1000004 0,pints m.notes,prefs m.refs] (tG 1000004 1000001 1000002 1000003 at_ now D) (dMs 1000003 D) (pint (checkM 2 3 m)) (tG 1000004 1000001 1000002 1000003 at_ now D) (dMs 1000003 D):=by
 have hlr:Low (prefs now.refs):=(low_prefs _).2 trivial
 have hlt:Low (pints now.notes):=(low_pints _).2 trivial
 have hmr:Low (prefs m.refs):=(low_prefs _).2 trivial
 have hmt:Low (pints m.notes):=(low_pints _).2 trivial
 refine th_of_pw Tryd.func10 rfl rfl (by intro p hp;rcases List.mem_cons.1 hp with rfl|hp;exact .ptr _ _ (by simp);rcases List.mem_cons.1 hp with rfl|hp;exact hmt.lowI;rcases List.mem_cons.1 hp with rfl|hp;exact hmr.lowI;cases hp) (by simp [pints,prefs,PV.ownB]) (Nat.le_of_ble_eq_true rfl) (Low.val _).lowI ?_
 have hck:=pw_mCheck m (by have:=hcl.1;omega) (by have:=hcl.2;omega)
 have hclo:=pw_clone m hcl
 generalize checkM 2 3 m=z at *
 obtain ⟨ver,notes,refs⟩:=m
 simp only at hv
 subst hv
 simp only at *
 have c1:=dC_low D
 have c2:=dM_low D
 refine wk ?_
 exact RetH.mk rfl (Weak.refl _) ⟨⟨_,rfl,WeakL.refl _⟩,⟨_,rfl,WeakL.refl _⟩,⟨_,rfl,WeakL.refl _⟩,trivial⟩ ⟨⟨rfl,rfl⟩,trivial⟩
set_option maxRecDepth 10000 in
set_option maxHeartbeats 1000000 in
theorem tc_Copies01 (D:DM) (at_:Nat) (now:PMan) (hop:D.op = []) (hdead:D.dead=false) (hv:now.ver=0):HCalls Tryd.prog 9 [.ptr 1000004 0] (tG 1000004 1000001 1000002 1000003 at_ now D) (dMs 1000003 D) (pint 2) (tG 1000004 1000001 1000002 1000003 at_ now D) (dMs 1000003 D):=by
 have hlr:Low (prefs now.refs):=(low_prefs _).2 trivial
 have hlt:Low (pints now.notes):=(low_pints _).2 trivial
 have c1:=dC_low D
 have c2:=dM_low D
 have hsp:=tc_spoiltB0 D at_ now hop hv
 have hdn:=dc_Down D 1000001 1000002 1000003 (by decide)
 rw [hdead] at hdn
 refine th_of_pw Tryd.func9 rfl rfl (by intro p hp;rcases List.mem_cons.1 hp with rfl|hp;exact .ptr _ _ (by simp);cases hp) (by simp [PV.ownB]) (Nat.le_of_ble_eq_true rfl) (.val _) ?_
 refine wk ?_
 exact RetH.mk rfl (Weak.refl _) ⟨⟨_,rfl,WeakL.refl _⟩,⟨_,rfl,WeakL.refl _⟩,⟨_,rfl,WeakL.refl _⟩,trivial⟩ ⟨⟨rfl,rfl⟩,trivial⟩
theorem renT_ptr {t d c m:Nat} : Ren (renN (tIds t d c m)) (fun i=>i ∈ [1000004,1000001,1000002,1000003]) (.ptr 1000004 0) (.ptr t 0):=.ptr _ _ (by simp)
end
end Go.Proofs.YtmeekbjhpidcgaaDoor
