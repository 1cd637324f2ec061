/- Out of: Uk2. -/
import Derived.Test.YtmeekbjhpidcgaaDoorG37
import Derived.Test.YtmeekbjhpidcgaaDoorG44
import Derived.Test.YtmeekbjhpidcgaaDoorG46
namespace Go.Proofs.YtmeekbjhpidcgaaDoor
set_option linter.unusedSimpArgs false
set_option linter.unusedVariables false
set_option linter.unnecessarySimpa false
section
open Go.RowKit
set_option maxRecDepth 10000 in
set_option maxHeartbeats 4000000 in
theorem pw_sanity32:PCalls Tryd.prog 5 [] (· = pbool true):=by
 have hrefs:PCalls Tryd.prog 13 [] (· = .sl 2 18 (refs0.flatMap prefL) none):=pw_refs
 obtain ⟨k1,k2⟩:=slotM_ok m1_ok.1 m1_ok.2
 obtain ⟨e1,e2,e3⟩:=okM m1_ok.1 m1_ok.2
 have kN:=dc_New 1024 (by omega) 900001 900002 900003 (by decide)
 have kO:=tc_Open (newD 1024) 0 (by decide) rfl (by decide) rfl 900004 900001 900002 900003 (by decide)
 rw [show bestM (readT (newD 1024) 0)=zeroM from best_zero (fun k hk=>newD_reads (by omega))] at kO
 have kNow0:=tc_Now (t:=900004) (d:=900001) (c:=900002) (m':=900003) (by decide) (newD 1024) 0 zeroM ⟨by decide,by decide⟩
 have kC0:=tc_Copies0 (t:=900004) (d:=900001) (c:=900002) (m':=900003) (by decide) (newD 1024) 0 zeroM rfl rfl rfl
 have kT1:=tc_Turn (t:=900004) (d:=900001) (c:=900002) (m':=900003) (by decide) (newD_ok 1024) 0 zeroM m1S (by omega) (by omega) (by omega) rfl (by decide) m1_ok.1 e1 k1 e2
 obtain ⟨D1,hD1,o1,p1,r0,r2,r3⟩:=san1
 rw [←hD1] at kT1
 have kNow1:=tc_Now (t:=900004) (d:=900001) (c:=900002) (m':=900003) (by decide) D1 0 m1S e2
 have kT2:=tc_TurnE (t:=900004) (d:=900001) (c:=900002) (m':=900003) (by decide) D1 0 m1S m2S rfl (by decide) (by rw [m2_bad];decide) ⟨by decide,by decide⟩
 rw [m2_bad] at kT2
 obtain ⟨o3,p3,q0,q3⟩:=san3 o1 p1 r0 r3
 have kCr:=dc_Crash0 D1 [] (by rw [o1.len];decide) p1 900001 900002 900003 900005 900006 900007 (by decide)
 have kRot:=dc_Rot D1.crash0 512 900005 900006 900007 (by decide)
 rw [show D1.crash0.check 512=0 from (crash0_ok o1).check0 (by omega) (by omega)] at kRot
 generalize hD3:D1.crash0.rot 512=D3 at *
 have kO3:=tc_Open D3 0 (by rw [o3.len];decide) p3 (by rw [o3.len];decide) o3.dead 900008 900005 900006 900007 (by decide)
 rw [san_best q0 q3] at kO3
 have kNow3:=tc_Now (t:=900008) (d:=900005) (c:=900006) (m':=900007) (by decide) D3 0 m1S e2
 obtain ⟨n,a,b,hst⟩:∃n a b,spP (copiesM (readT D3 0)) m1S.ver (firstI m1S.ver) (copiesM (readT D3 0)).length=(n,a,b):=⟨_,_,_,rfl⟩
 obtain ⟨hn1,hL⟩:=san_spoilt q0 q3 hst
 subst hn1
 have kC3:HCalls Tryd.prog 9 [.ptr 900008 0] (tG 900008 900005 900006 900007 0 m1S D3) (dMs 900007 D3) (pint 1) (tG 900008 900005 900006 900007 0 m1S D3) (dMs 900007 D3):=tc_Copies (by decide) D3 0 m1S (by rw [o3.len];decide) p3 (by omega) o3.dead (by decide) (by decide) 1 a b hst
 have kM:HCalls Tryd.prog 18 [.ptr 900008 0] (tG 900008 900005 900006 900007 0 m1S D3) (dMs 900007 D3) (.tup [pint 1,pint 0]) (tG 900008 900005 900006 900007 0 m1S (D3.mend 0 [2] m1S)) (dMs 900007 (D3.mend 0 [2] m1S)):=tc_Mend (by decide) o3 0 m1S p3 (by omega) (by omega) (by omega) (by decide) (by decide) e1 k1 1 a b hst [2] hL.symm (by decide)
 obtain ⟨o4,p4,r4⟩:=mend_spec o3 p3 (at_:=0) (m:=m1S) (l := [2]) (by decide) (by decide) (by omega) k1 (by omega) e3 m1_ok.2 k2
 generalize D3.mend 0 [2] m1S=D4 at *
 obtain ⟨n4,a4,b4,hst4⟩:∃n a b,spP (copiesM (readT D4 0)) m1S.ver (firstI m1S.ver) (copiesM (readT D4 0)).length=(n,a,b):=⟨_,_,_,rfl⟩
 have hL4:=spoilt_none (f:=2) (v:=m1S.ver) (rd:=readT D4 0) hst4 (by omega) (x:=m1S) (y:=m1S) (by rw [r4 2 (by omega),if_pos (by decide)]) (by rw [r4 3 (by omega),if_neg (by decide)];exact q3) rfl rfl
 have hn4:n4=0:=by
  have:=congrArg List.length hL4
  simp only [List.length_take,List.length_cons,List.length_nil] at this
  omega
 subst hn4
 have kC4:HCalls Tryd.prog 9 [.ptr 900008 0] (tG 900008 900005 900006 900007 0 m1S D4) (dMs 900007 D4) (pint 2) (tG 900008 900005 900006 900007 0 m1S D4) (dMs 900007 D4):=tc_Copies (by decide) D4 0 m1S (by rw [o4.len];decide) p4 (by omega) o4.dead (by decide) (by decide) 0 a4 b4 hst4
 have kSR:=pw_sameRefs refs0 refs0 (by decide) (by decide) (by decide) (by decide)
 have kS:=pw_same m1S m1S (by decide) (by decide) (by decide) (by decide)
 have kH:=pw_has m1S 1 9 (by decide) (by decide)
 rw [decide_eq_true rfl] at kSR kS
 rw [show hasO (hasR m1S.refs 1 9) = .tup [.agg (prefL (refs0.getD 1 default)),pbool true] from rfl] at kH
 have kT2' : HCalls Tryd.prog 10 [.ptr 900004 0, .nilsl,prefs m2S.refs] (tG 900004 900001 900002 900003 0 m1S D1) (dMs 900003 D1) (pint 3) (tG 900004 900001 900002 900003 0 m1S D1) (dMs 900003 D1):=hcalls_weakA kT2 (.cons (.refl _) (.cons (.nil 1) (.cons (.refl _) .nil)))
 have kCr' : HCalls Tryd.prog 14 [.ptr 900001 0, .nilsl] (dG 900001 900002 900003 D1) (dMs 900003 D1) (.ptr 900005 0) (crG 900001 900002 900003 900005 900006 900007 D1 D1.crash0) (crM 900003 900007 D1 D1.crash0):=hcalls_weakA kCr (.cons (.refl _) (.cons (.nil 1) .nil))
 clear kT2 kCr hst hL hst4 hL4 o1 o3 o4 p1 p3 p4 r0 r2 r3 r4 q0 q3 k1 k2 e1 e2 e3 hD1 hD3
 have kNow1u:=fun _:Unit=>kNow1
 have kC4u:=fun _:Unit=>kC4
 have kO3u:=fun _:Unit=>kO3
 clear kNow1 kC4 kO3
 refine pcalls_of_pw typeTab_ok Tryd.func5 rfl (by kernel_rfl) (by simp) (by simp) (Nat.le_of_ble_eq_true rfl) ?_
 refine wk ?_
 have kNow1:=kNow1u ()
 clear kNow0
 refine wk ?_
 have kO3:=kO3u ()
 clear kO
 refine wg ?_
 refine PW.drawF (fun i id=>Nat.beq i 30 && Nat.beq id 6002) typeTab_ok (by kernel_rfl) (by kernel_rfl) (by kernel_rfl) ?_
 refine wk ?_
 have kC4:=kC4u ()
 clear kC3
 refine wk ?_
 exact retP rfl (.val _) rfl
end
end Go.Proofs.YtmeekbjhpidcgaaDoor
