/- Out of: Va, Vd2. -/
import Derived.Test.YtoamkpgaaanafaaGreatM37
namespace Go.Proofs.YtoamkpgaaanafaaGreat
set_option linter.unusedSimpArgs false
set_option linter.unusedVariables false
set_option linter.unnecessarySimpa false
section
open Go.RowKit
set_option maxRecDepth 10000 in
set_option maxHeartbeats 1000000 in
theorem pw_r4Valid (v:List Int) (hl:v.length≤1000000):PCalls Tryz.prog 71 [pints v] (· = pbool (vecB v)):=by
 refine pcalls_of_pw typeTab_ok Tryz.func71 rfl (by kernel_rfl) (by simp [low_pint,low_pints,low_pstr,low_pbool,low_pbox,low_pvecs,low_pentry,low_pentries,low_psum,low_pschema,low_pshells,low_pstrs,low_pfld,low_pdef]) (by simp [pint,pints,pstr,pbool,pbox,pvecs,pentry,pentries,psum,psumL,pschema,pshells,pstrs,pfld,pfldL,pdefL,PV.ownB]) (by rw [Tryz.ntmps71];simp) ?_
 rw [Tryz.ntmps71,Tryz.results71]
 have hres:∀k,k < v.length→farB (v.getD k default)=true→vecB v=false:=fun k hk h=>by
  have:v.any farB=true:=List.any_eq_true.2 ⟨_,getD_mem hk,h⟩
  simp [vecB,this]
 refine wk ?_
 refine PW.loop (fun k:Nat=>(bot.put 0 (pints v) |>.put 3 (pint k))) (fun k=>k≤v.length∧∀j,j < k→farB (v.getD j default)=false) (fun k=>v.length - k) 0 ⟨by omega,by simp⟩ ?_ ?_
 ·exact sb
 rintro k ⟨hk,hn⟩
 by_cases hlt:k < v.length
 ·have hr:=hres k hlt
  by_cases h1:v.getD k default < -1000
  ·refine wk ?_
   exact retP rfl (by exact lw) (by rw [hr (by rw [farB,decide_eq_true h1];rfl)];rfl)
  by_cases h2:1000 < v.getD k default
  ·refine wk ?_
   exact retP rfl (by exact lw) (by rw [hr (by simp only [farB,decide_eq_true h2,Bool.or_true])];rfl)
  refine wk ?_
  refine loopP (k+1) ⟨by omega,fun j hj=>?_⟩ (by omega) ?_
  ·rcases Nat.lt_succ_iff_lt_or_eq.1 hj with h|h
   ·exact hn j h
   ·rw [h,farB,decide_eq_false h1,decide_eq_false h2];rfl
  ·exact sb
 ·have ha:v.any farB=false:=by
   rw [List.any_eq_false]
   intro x hx
   obtain ⟨j,hj,rfl⟩:=List.getElem_of_mem hx
   have:=hn j (by omega)
   rw [getD_atW hj] at this
   rw [this];decide
  unfold vecB
  rw [ha]
  by_cases h1:1≤v.length
  ·by_cases h2:v.length≤32
   ·refine wk ?_
    exact retP rfl (by exact lw) (by simp [pbool,h1,h2])
   ·refine wk ?_
    exact retP rfl (by exact lw) (by simp [pbool,h2])
  ·refine wk ?_
   exact retP rfl (by exact lw) (by simp [pbool,h1])
set_option maxRecDepth 10000 in
theorem pw_r4size (n:Int) (h:Small30 n):PCalls Tryz.prog 242 [pint n] (· = pint (absI n)):=by
 refine pcalls_of_pw typeTab_ok Tryz.func242 rfl (by kernel_rfl) (by simp [low_pint,low_pints,low_pstr,low_pbool,low_pbox,low_pvecs,low_pentry,low_pentries,low_psum,low_pschema,low_pshells,low_pstrs,low_pfld,low_pdef]) (by simp [pint,pints,pstr,pbool,pbox,pvecs,pentry,pentries,psum,psumL,pschema,pshells,pstrs,pfld,pfldL,pdefL,PV.ownB]) (by rw [Tryz.ntmps242];simp) ?_
 rw [Tryz.ntmps242,Tryz.results242]
 obtain ⟨h1,h2⟩:=h
 unfold absI
 by_cases h:n < 0
 ·rw [show max n (-n) = -n by omega]
  refine wk ?_
  refine retP rfl (by exact lw) ?_
  show PV.val (.int .i64 (IntKind.i64.wrap (0 - n)))=pint (-n)
  rw [wrap64_id (by omega) (by omega),Int.zero_sub];rfl
 ·rw [show max n (-n)=n by omega]
  refine wk ?_
  exact retP rfl (by exact lw) rfl
set_option maxRecDepth 10000 in
set_option maxHeartbeats 1000000 in
theorem pw_r4Sub (a b:List Int) (h1:a.length≤1000000) (h2:a.length≤b.length) (h3:b.length≤1000000) (ha:∀k,-1000000≤a.getD k default∧a.getD k default≤1000000) (hb:∀k,-1000000≤b.getD k default∧b.getD k default≤1000000):PCalls Tryz.prog 183 [pints a,pints b] (· = pints (zipI subI a b)):=by
 refine PCalls.weak ?_
 refine pcalls_of_pw typeTab_ok Tryz.func183 rfl (by kernel_rfl) (by simp [low_pint,low_pints,low_pstr,low_pbool,low_pbox,low_pvecs,low_pentry,low_pentries,low_psum,low_pschema,low_pshells,low_pstrs,low_pfld,low_pdef]) (by simp [pint,pints,pstr,pbool,pbox,pvecs,pentry,pentries,psum,psumL,pschema,pshells,pstrs,pfld,pfldL,pdefL,PV.ownB]) (by rw [Tryz.ntmps183];simp) ?_
 rw [Tryz.ntmps183,Tryz.results183]
 refine wk ?_
 refine PW.loop (fun k:Nat=>(bot.put 0 (pints a) |>.put 1 (pints b) |>.put 5 (.sl k 1 (((zipI subI a b).take k).map pint) (some 3)) |>.put 6 (pint k))) (fun k=>k≤a.length) (fun k=>a.length - k) 0 (by omega) ?_ ?_
 ·exact sb
 intro k hk
 by_cases hlt:k < a.length
 ·obtain ⟨a1,a2⟩:=ha k
  obtain ⟨b1,b2⟩:=hb k
  refine wk ?_
  refine loopP (k+1) (by omega) (by omega) ?_
  have e:((zipI subI a b).take (k+1)).map pint=((zipI subI a b).take k).map pint ++ [pint (subI (a.getD k default) (b.getD k default))]:=by
   rw [zipI_take hlt,List.map_append];rfl
  simp only [e]
  have hl:=low_intsapp (k+1) ((zipI subI a b).take k) (subI (a.getD k default) (b.getD k default)) (some 3)
  exact sb
 ·have hkk:k=a.length:=by omega
  have e:(zipI subI a b).take k=zipI subI a b:=List.take_of_length_le (by rw [zipI_len];omega)
  simp only [e]
  refine wk ?_
  refine retP (r:=.sl k 1 ((zipI subI a b).map pint) none) rfl (low_ints _ _ _) ?_
  rw [hkk,←zipI_len subI a b]
  exact Weak.refl _
set_option maxRecDepth 10000 in
set_option maxHeartbeats 2000000 in
theorem pw_r4Norm (m:Int) (v:List Int) (hm:keyB m=true) (hl:v.length≤1000) (hv:∀k,-5000≤v.getD k default∧v.getD k default≤5000):PCalls Tryz.prog 182 [pint m,pints v] (· = pint (normI m v)):=by
 have hv' : ∀d∈v,-5000≤d∧d≤5000:=fun d hd=>by
  obtain ⟨j,hj,rfl⟩:=List.getElem_of_mem hd
  have:=hv j
  rwa [getD_atW hj] at this
 have hsm:∀k,Small30 ((v.take k).foldl (fun n x=>addM m n (absI x)) 0):=fun k=>norm_small (fun d h=>hv' d (List.mem_of_mem_take h)) (by simp;omega)
 refine pcalls_of_pw typeTab_ok Tryz.func182 rfl (by kernel_rfl) (by simp [low_pint,low_pints,low_pstr,low_pbool,low_pbox,low_pvecs,low_pentry,low_pentries,low_psum,low_pschema,low_pshells,low_pstrs,low_pfld,low_pdef]) (by simp [pint,pints,pstr,pbool,pbox,pvecs,pentry,pentries,psum,psumL,pschema,pshells,pstrs,pfld,pfldL,pdefL,PV.ownB]) (by rw [Tryz.ntmps182];simp) ?_
 rw [Tryz.ntmps182,Tryz.results182]
 rw [←normI_eq]
 simp only [keyB,Bool.and_eq_true,decide_eq_true_eq] at hm
 refine wk ?_
 refine PW.loop (fun k:Nat=>(bot.put 0 (pint m) |>.put 1 (pints v) |>.put 5 (pint ((v.take k).foldl (fun n x=>addM m n (absI x)) 0)) |>.put 6 (pint k))) (fun k=>k≤v.length) (fun k=>v.length - k) 0 (by omega) ?_ ?_
 ·exact sb
 intro k hk
 by_cases hlt:k < v.length
 ·obtain ⟨v1,v2⟩:=hv k
  have hs:=pw_r4size (v.getD k default) ⟨by omega,by omega⟩
  obtain ⟨s1,s2⟩:=hsm k
  have ab:=absI_bound (hv k)
  have sq:=sq_bound v1 v2
  have e:=foldl_take (fun n x=>addM m n (absI x)) 0 v hlt
  generalize (v.take k).foldl (fun n x=>addM m n (absI x)) 0=n at *
  rcases (show m=1∨m=2∨m=3 by omega) with rfl|rfl|rfl
  ·have e2:addM 1 n (absI (v.getD k default))=n+absI (v.getD k default):=rfl
   refine wk ?_
   refine loopP (k+1) (by omega) (by omega) ?_
   simp only [e,e2]
   exact sb
  ·have e2:addM 2 n (absI (v.getD k default))=n+v.getD k default * v.getD k default:=by rw [←absI_sq];rfl
   rw [e2] at e
   refine wk ?_
   refine loopP (k+1) (by omega) (by omega) ?_
   simp only [e]
   exact sb
  ·have e2:addM 3 n (absI (v.getD k default))=(if absI (v.getD k default) > n then absI (v.getD k default) else n):=by
    show max n (absI (v.getD k default))=_
    split<;>omega
   rw [e2] at e
   refine wk ?_
   refine loopP (k+1) (by omega) (by omega) ?_
   simp only [e]
   exact sb
 ·have e:v.take k=v:=List.take_of_length_le (by omega)
  simp only [e]
  refine wk ?_
  exact retP rfl (by exact lw) rfl
set_option maxRecDepth 10000 in
theorem pw_r4Key (m:Int) (a b:List Int) (hm:keyB m=true) (ha:vecB a=true) (hb:vecB b=true) (hl:a.length=b.length):PCalls Tryz.prog 96 [pint m,pints a,pints b] (· = pint (keyV m a b)):=by
 obtain ⟨⟨a1,a2⟩,a3⟩:=vecB_get ha
 obtain ⟨⟨b1,b2⟩,b3⟩:=vecB_get hb
 have h1:=pw_r4Sub a b (by omega) (by omega) (by omega) (fun k=>by have:=a3 k;omega) (fun k=>by have:=b3 k;omega)
 have h2:=pw_r4Norm m (zipI subI a b) hm (by rw [zipI_len];omega) (fun k=>by
  rcases Nat.lt_or_ge k a.length with hk|hk
  ·rw [zipI_get hk]
   have:=a3 k
   have:=b3 k
   unfold subI;omega
  ·rw [List.getD_eq_getElem?_getD,List.getElem?_eq_none (by rw [zipI_len];omega)];decide)
 refine pcalls_of_pw typeTab_ok Tryz.func96 rfl (by kernel_rfl) (by simp [low_pint,low_pints,low_pstr,low_pbool,low_pbox,low_pvecs,low_pentry,low_pentries,low_psum,low_pschema,low_pshells,low_pstrs,low_pfld,low_pdef]) (by simp [pint,pints,pstr,pbool,pbox,pvecs,pentry,pentries,psum,psumL,pschema,pshells,pstrs,pfld,pfldL,pdefL,PV.ownB]) (by rw [Tryz.ntmps96];simp) ?_
 rw [Tryz.ntmps96,Tryz.results96]
 unfold keyV
 refine wk ?_
 exact retP rfl (by exact lw) rfl
set_option maxRecDepth 10000 in
set_option maxHeartbeats 1000000 in
theorem pw_r9Keys (m:Int) (pv:List (List Int)) (v:List Int) (hm:keyB m=true) (h1:pv.length≤1000000) (hp:∀k,k < pv.length→vecB (pv.getD k default)=true∧(pv.getD k default).length=v.length) (hv:vecB v=true):PCalls Tryz.prog 36 [pint m,pvecs pv,pints v] (· = pints (keysP m pv v)):=by
 have hlp:Low (pvecs pv):=(low_pvecs _).2 trivial
 refine PCalls.weak ?_
 refine pcalls_of_pw typeTab_ok Tryz.func36 rfl (by kernel_rfl) (by simp [low_pint,low_pints,low_pstr,low_pbool,low_pbox,low_pvecs,low_pentry,low_pentries,low_psum,low_pschema,low_pshells,low_pstrs,low_pfld,low_pdef]) (by simp [pint,pints,pstr,pbool,pbox,pvecs,pentry,pentries,psum,psumL,pschema,pshells,pstrs,pfld,pfldL,pdefL,PV.ownB]) (by rw [Tryz.ntmps36];simp) ?_
 rw [Tryz.ntmps36,Tryz.results36]
 refine wk ?_
 refine PW.loop (fun k:Nat=>(bot.put 0 (pint m) |>.put 1 (pvecs pv) |>.put 2 (pints v) |>.put 7 (.sl k 1 (((keysP m pv v).take k).map pint) (some 3)) |>.put 8 (pint k))) (fun k=>k≤pv.length) (fun k=>pv.length - k) 0 (by omega) ?_ ?_
 ·exact sb
 intro k hk
 by_cases hlt:k < pv.length
 ·obtain ⟨b1,b2⟩:=hp k hlt
  have c1:=pw_r4Key m (pv.getD k default) v hm b1 hv b2
  refine wk ?_
  refine loopP (k+1) (by omega) (by omega) ?_
  have hl:=low_intsapp (k+1) ((keysP m pv v).take k) (keyV m (pv.getD k default) v) (some 3)
  have e:((keysP m pv v).take (k+1)).map pint=((keysP m pv v).take k).map pint ++ [pint (keyV m (pv.getD k default) v)]:=by
   rw [keysP_take hlt,List.map_append];rfl
  simp only [e]
  exact sb
 ·have hkk:k=pv.length:=by omega
  have e:(keysP m pv v).take k=keysP m pv v:=List.take_of_length_le (by simp [keysP];omega)
  simp only [e]
  refine wk ?_
  refine retP (r:=.sl k 1 ((keysP m pv v).map pint) none) rfl (low_ints _ _ _) ?_
  rw [show PV.sl k 1 ((keysP m pv v).map pint) none=pints (keysP m pv v) from sl_eq (by simp [keysP,hkk]) rfl]
  exact Weak.refl _
end
end Go.Proofs.YtoamkpgaaanafaaGreat
