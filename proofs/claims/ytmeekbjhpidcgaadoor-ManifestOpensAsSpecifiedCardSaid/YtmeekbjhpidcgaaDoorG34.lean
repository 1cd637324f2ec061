/- Out of: To. -/
import Derived.Test.YtmeekbjhpidcgaaDoorG28
namespace Go.Proofs.YtmeekbjhpidcgaaDoor
set_option linter.unusedSimpArgs false
set_option linter.unusedVariables false
set_option linter.unnecessarySimpa false
section
open Go.RowKit
set_option maxRecDepth 10000 in
set_option maxHeartbeats 1000000 in
theorem pw_insert0:PCalls Tryd.prog 77 [.sl 0 1 [] none,pint 0,pint 0] (· = .tup []):=by
 refine pcalls_of_pw typeTab_ok Tryd.func77 rfl (by kernel_rfl) (by simp [low_pint,low_sl]) (by simp [pint,PV.ownB]) (by rw [Tryd.ntmps77];simp) ?_
 rw [Tryd.ntmps77,Tryd.results77]
 refine wk ?_
 refine PW.unroll ?_
 refine wk ?_
 exact retP rfl (by simp [low_tup]) rfl
set_option maxRecDepth 10000 in
set_option maxHeartbeats 1000000 in
theorem pw_len64:PCalls Tryd.prog 87 [.val (.int .u64 0)] (· = pint 0):=by
 refine pcalls_of_pw typeTab_ok Tryd.func87 rfl (by kernel_rfl) (by simp [low_val]) (by simp [PV.ownB]) (by rw [Tryd.ntmps87];simp) ?_
 rw [Tryd.ntmps87,Tryd.results87]
 refine wg ?_
 refine PW.region typeTab_ok (by kernel_rfl) ?_
 refine wg ?_
 refine PW.region typeTab_ok (by kernel_rfl) ?_
 refine wg ?_
 refine PW.region typeTab_ok (by kernel_rfl) ?_
 refine wg ?_
 refine PW.region typeTab_ok (by kernel_rfl) ?_
 refine wg ?_
 refine PW.region typeTab_ok (by kernel_rfl) ?_
 refine PWops.stepA rfl ?_
 refine PWops.stepA rfl ?_
 refine PWops.stepA rfl ?_
 refine PWops.idxSt (y:=0) (c:=0) rfl rfl rfl rfl rfl rfl rfl rfl rfl (by decide +kernel) (by decide +kernel) ?_
 refine wk ?_
 exact retP rfl (.val _) rfl
set_option maxRecDepth 10000 in
theorem pw_len0:PCalls Tryd.prog 67 [.val (.int .u64 0)] (· = pint 0):=by
 have h:=pw_len64
 refine pcalls_of_pw typeTab_ok Tryd.func67 rfl (by kernel_rfl) (by simp [low_val]) (by simp [PV.ownB]) (by rw [Tryd.ntmps67];simp) ?_
 rw [Tryd.ntmps67,Tryd.results67]
 refine wk ?_
 exact retP rfl (.val _) rfl
set_option maxRecDepth 10000 in
set_option maxHeartbeats 1000000 in
theorem pw_pdq0:PCalls Tryd.prog 66 [.sl 0 1 [] none,pint 0,pint 0,pint 0] (· = .tup []):=by
 have h:=pw_insert0
 refine pcalls_of_pw typeTab_ok Tryd.func66 rfl (by kernel_rfl) (by simp [low_pint,low_sl]) (by simp [pint,PV.ownB]) (by rw [Tryd.ntmps66];simp) ?_
 rw [Tryd.ntmps66,Tryd.results66]
 refine wk ?_
 refine PW.unroll ?_
 refine wk ?_
 exact retP rfl (by simp [low_tup]) rfl
set_option maxRecDepth 10000 in
theorem pw_sort0:PCalls Tryd.prog 50 [.sl 0 1 [] none] (· = .tup []):=by
 have h:=pw_pdq0
 have h2:=pw_len0
 refine pcalls_of_pw typeTab_ok Tryd.func50 rfl (by kernel_rfl) (by simp [low_sl]) (by simp [PV.ownB]) (by rw [Tryd.ntmps50];simp) ?_
 rw [Tryd.ntmps50,Tryd.results50]
 refine wk ?_
 exact retP rfl (by simp [low_tup]) rfl
set_option maxRecDepth 10000 in
set_option maxHeartbeats 2000000 in
theorem dc_sectors0 (D:DM) (hop:D.op = []):DCalls 33 [] D (.sl 0 1 [] none) D:=by
 refine dcalls_of_pw Tryd.func33 rfl rfl (by simp) (by simp) (Nat.le_of_ble_eq_true rfl) (by simp [low_sl]) ?_
 have hsort:=pw_sort0
 have hdm:dM D = .map [] D.clock:=by unfold dM;rw [hop];rfl
 have c1:=dC_low D
 have hlowm:∀e∈([]:List (Nat×PV×PV)),Low e.2.1∧Low e.2.2:=by simp
 unfold dMs
 rw [hdm]
 refine wk ?_
 refine PWops.rng rfl rfl rfl rfl rfl rfl rfl rfl ?_
 refine wk ?_
 refine PW.loop (fun _:Nat=>((((((bot.setb 1000001 (dB 1000002 1000003 D)).setb 1000002 (dC D)).setm 1000003 (.map [] D.clock)).setm 2004 (.iter 1000003 D.clock [] D.clock)).put 0 (.ptr 1000001 0)).put 9 (.ptr 2004 0)).put 3 (.sl 0 1 [] (some 3))) (fun k=>k=0) (fun _=>0) 0 rfl ?_ ?_
 ·exact sb
 ·rintro k rfl
  refine PW.seq ?_
  refine PWnext typeTab_ok (it:=2004) (mid:=1000003) (es := []) (clock:=D.clock) rfl rfl rfl (by decide) rfl ?_ ?_ ?_
  ·exact .inr (.inl rfl)
  ·intro hno
   refine wg ?_
   refine wk ?_
   exact RetH.mk rfl (Weak.refl _) ⟨⟨_,rfl,WeakL.refl _⟩,⟨_,rfl,WeakL.refl _⟩,trivial⟩ ⟨⟨rfl,rfl⟩,trivial⟩
  ·intro s hs
   simp at hs
theorem flat_bare {α:Type} {f:α→List PV} (h:∀x,(f x).map PV.bare=f x) (l:List α):(l.flatMap f).map PV.bare=l.flatMap f:=by
 rw [List.map_flatMap];congr 1;funext x;exact h x
theorem dC_bare (D:DM):(dC D).map PV.bare=dC D:=flat_bare dcellL_bare _
theorem dC_len (D:DM):(dC D).length=D.cells.length * 65:=flatMap_len dcellL_len _
theorem copy_cells {b:Nat→Option (List PV)} {id:Nat} (D:DM) (h:b id=some (dC D)):copySrc b 65 (.msl id 0 D.cells.length 65)=some (D.cells.length,dC D):=by
 show (if (65:Nat)=65 then _ else none)=_
 rw [if_pos rfl,h]
 show (if 0+D.cells.length * 65≤(dC D).length then some (D.cells.length,(((dC D).drop 0).take (D.cells.length * 65)).map PV.bare) else none)=_
 rw [if_pos (by rw [dC_len];omega),List.drop_zero,List.take_of_length_le (by rw [dC_len];exact Nat.le_refl _),dC_bare]
def DM.crash0 (D:DM):DM:=⟨D.cells,[],0,0,-1,false⟩
def crG (d c m d2 c2 m2:Nat) (D D2:DM):List (Nat×List PV) := [(d,dB c m D),(c,dC D),(d2,dB c2 m2 D2),(c2,dC D2)]
def crM (m m2:Nat) (D D2:DM):List (Nat×PMap) := [(m,dM D),(m2,dM D2)]
set_option maxRecDepth 10000 in
set_option maxHeartbeats 2000000 in
theorem dc_Crash01 (D:DM) (keep:List Int) (hsz:1≤D.cells.length∧D.cells.length≤65536) (hop:D.op = []) :
  HCalls Tryd.prog 14 [.ptr 1000001 0,pints keep] (dG 1000001 1000002 1000003 D) (dMs 1000003 D) (.ptr 900005 0) (crG 1000001 1000002 1000003 900005 900006 900007 D (D.crash0)) (crM 1000003 900007 D (D.crash0)):=by
 have c1:=dC_low D
 have c2:=dM_low D
 have c3:=dC_low (D.crash0)
 have c4:=dM_low (D.crash0)
 have hsec:=dc_sectors0 D hop 1000001 1000002 1000003 (by decide)
 have hnew:=dc_New D.cells.length (by omega) 900005 900006 900007 (by decide)
 rw [Int.toNat_natCast] at hnew
 refine hcalls_of_pw typeTab_ok Tryd.func14 rfl rfl (by simp [PV.ownB,pints]) (Nat.le_of_ble_eq_true rfl) (by simp [ResIds,dG,dMs]) (by simp [ResIds,dG,dMs]) ⟨li_cons (.ptr _ _ (by simp [ResIds,dG,dMs])) (li_cons (Low.lowI (by exact lw)) li_nil),lb_cons (dB_lowI (by simp [ResIds,dG,dMs]) (by simp [ResIds,dG,dMs]) _) (lb_cons (li_low c1) lb_nil),lm_cons c2 lm_nil, .ptr _ _ (by simp [ResIds,crG,crM]),lb_cons (dB_lowI (by simp [ResIds,crG,crM]) (by simp [ResIds,crG,crM]) _) (lb_cons (li_low c1) (lb_cons (dB_lowI (by simp [ResIds,crG,crM]) (by simp [ResIds,crG,crM]) _) (lb_cons (li_low c3) lb_nil))),lm_cons c2 (lm_cons c4 lm_nil),by simp [crG,dG],by simp [crM,dMs]⟩ ?_
 have hnl:(newD D.cells.length).cells.length=D.cells.length:=by simp [newD]
 have hnB:dB 900006 900007 (newD D.cells.length)=dB 900006 900007 (D.crash0):=by simp [dB,newD,DM.crash0]
 have hnM:dM (newD D.cells.length)=dM (D.crash0):=rfl
 have hnC:=dC_len (newD D.cells.length)
 rw [hnl] at hnC
 generalize hN:newD D.cells.length=N at *
 refine wk ?_
 refine PWops.copy (n2:=D.cells.length) (cs:=dC D) (out:=dC D) rfl rfl rfl rfl rfl ?_ rfl rfl rfl ?_ ?_ ?_ ?_
 ·exact copy_cells D rfl
 ·show 0+min D.cells.length N.cells.length * 65≤(dC N).length
  rw [hnC,hnl,Nat.min_self];omega
 ·rw [dC_len,hnl,Nat.min_self];exact Nat.le_refl _
 ·rw [hnl,Nat.min_self,←dC_len D,List.take_length]
  unfold splice
  rw [List.take_zero,List.nil_append,Nat.zero_add,List.drop_of_length_le (by rw [hnC,dC_len];exact Nat.le_refl _),List.append_nil]
 have hG:dG 900005 900006 900007 N = [(900005,dB 900006 900007 (D.crash0)),(900006,dC N)]:=by rw [←hnB];rfl
 have hM:dMs 900007 N = [(900007,dM (D.crash0))]:=by rw [←hnM];rfl
 rw [hG,hM,hnl,Nat.min_self]
 refine wk ?_
 refine PW.unroll ?_
 refine wk ?_
 exact RetH.mk rfl (Weak.refl _) ⟨⟨_,rfl,WeakL.refl _⟩,⟨_,rfl,WeakL.refl _⟩,⟨_,rfl,WeakL.refl _⟩,⟨_,rfl,WeakL.refl _⟩,trivial⟩ ⟨⟨rfl,rfl⟩,⟨rfl,rfl⟩,trivial⟩
theorem dc_Crash0 (D:DM) (keep:List Int) (hsz:1≤D.cells.length∧D.cells.length≤65536) (hop:D.op = []) (d c m d2 c2 m2:Nat) (hd:([d,c,m,d2,c2,m2]:List Nat).Nodup) :
  HCalls Tryd.prog 14 [.ptr d 0,pints keep] (dG d c m D) (dMs m D) (.ptr d2 0) (crG d c m d2 c2 m2 D (D.crash0)) (crM m m2 D (D.crash0)):=by
 refine (dc_Crash01 D keep hsz hop).at [(1000001,d),(1000002,c),(1000003,m),(900005,d2),(900006,c2),(900007,m2)] (by simpa using hd) (by simp [ResIds,crG,crM]) (by simp [crG,dG]) (by simp [crM,dMs]) (.cons (.ptr _ _ (by first|(simp [ResIds];done)|(simp [ResIds,dG,dMs];done)|(simp [ResIds,dG,dMs,crG,crM];done)|(simp [ResIds,dG,dMs,jG];done))) (.cons (.low _ (by exact lw)) .nil)) ?_ ?_ ?_ ?_ (.cons _ _ _ _ _ (RenM.low (dM_low _)) (.cons _ _ _ _ _ (RenM.low (dM_low _)) .nil))<;>exact ren0
end
end Go.Proofs.YtmeekbjhpidcgaaDoor
