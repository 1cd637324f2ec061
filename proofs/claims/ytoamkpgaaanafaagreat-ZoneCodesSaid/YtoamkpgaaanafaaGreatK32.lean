/- Out of: Cf. -/
import Derived.Test.YtoamkpgaaanafaaGreatK1
import Derived.Test.YtoamkpgaaanafaaGreatK2
import Derived.Test.YtoamkpgaaanafaaGreatK4
import Derived.Test.YtoamkpgaaanafaaGreatK5
import Derived.Test.YtoamkpgaaanafaaGreatK6
import Derived.Test.YtoamkpgaaanafaaGreatK8
import Derived.Test.YtoamkpgaaanafaaGreatK9
import Derived.Test.YtoamkpgaaanafaaGreatK10
import Derived.Test.YtoamkpgaaanafaaGreatK11
import Derived.Test.YtoamkpgaaanafaaGreatK12
import Derived.Test.YtoamkpgaaanafaaGreatK13
import Derived.Test.YtoamkpgaaanafaaGreatK18
import Derived.Test.YtoamkpgaaanafaaGreatK21
import Derived.Test.YtoamkpgaaanafaaGreatK24
import Derived.Test.YtoamkpgaaanafaaGreatK25
import Derived.Test.YtoamkpgaaanafaaGreatK28
import Derived.Test.YtoamkpgaaanafaaGreatK31
namespace Go.Proofs.YtoamkpgaaanafaaGreat
set_option linter.unusedSimpArgs false
set_option linter.unusedVariables false
set_option linter.unnecessarySimpa false
section
open Go.RowKit
set_option maxRecDepth 10000 in
set_option maxHeartbeats 2000000 in
theorem pw_rDecode (bs:List Int) (hby:Byte bs) (hl:bs.length≤100000000):PCalls Tryz.prog 48 [pbytes bs] (· = .agg (psumL (decZ bs).1 ++ [pint (decZ bs).2])):=by
 have hz1:∀x:Int,∀c∈zNil ++ [pint x],Low c:=by
  intro x c hc
  rcases List.mem_append.1 hc with h|h
  ·exact low_zNil c h
  ·simp only [List.mem_cons,List.not_mem_nil,or_false] at h;subst h;exact .val _
 have bad:∀c:Int,Weak (.agg (zNil ++ [pint c])) (.agg (psumL zeroZ ++ [pint c])):=fun c=>Weak.agg (.cons (.refl _) (.cons (.nil 1) (.cons (.nil 1) (.cons (.nil 2) (.cons (.refl _) (.cons (.refl _) (.cons (.refl _) (.cons (.refl _) (.cons (.refl _) (.cons (.nil 4) (.cons (.refl _) .nil)))))))))))
 have lowB:∀c:Int,Low (.agg (zNil ++ [pint c])):=fun c=>.agg _ (hz1 c)
 refine PCalls.weak ?_
 refine pcalls_of_pw typeTab_ok Tryz.func48 rfl (by kernel_rfl) (by exact lw) (by simp [pbytes,PV.ownB]) (by rw [Tryz.ntmps48];simp) ?_
 rw [Tryz.ntmps48,Tryz.results48]
 have cg:=pcRefGetInts bs hby (by omega)
 obtain ⟨n,u,er,h1⟩:∃n u er,getInts bs=(n,u,er):=⟨_,_,_,rfl⟩
 rw [h1] at cg
 simp only at cg
 unfold decZ
 rw [h1]
 simp only
 refine wk ?_
 by_cases g1:er=0
 case neg=>
  rw [if_pos g1]
  refine wk ?_
  exact retP (r:=.agg (zNil ++ [pint er])) rfl (lowB _) (bad _)
 subst g1
 obtain ⟨t1,t2,t3⟩:=getInts_take bs n u hby.all h1
 have t8:=getInts_short bs n u hby.all h1
 obtain ⟨U,rfl⟩:∃N:Nat,u=N:=⟨u.toNat,by omega⟩
 obtain ⟨s,u2,er2,h2⟩:∃s u2 er2,getStrs (bs.drop U)=(s,u2,er2):=⟨_,_,_,rfl⟩
 have cs:=pw_refGetStrs (bs.drop U) (hby.drop U) (by rw [List.length_drop];omega)
 rw [if_neg (by simp),Int.toNat_natCast,h2]
 rw [h2] at cs
 simp only at cs ⊢
 refine wk ?_
 by_cases g2:er2=0
 case neg=>
  rw [if_pos g2]
  refine wk ?_
  exact retP (r:=.agg (zNil ++ [pint er2])) rfl (lowB _) (bad _)
 subst g2
 obtain ⟨t5,t6,t7⟩:=getStrs_take (bs.drop U) s u2 (hby.drop U).all h2
 have t9:=(getStrs_len (bs.drop U) s u2 (hby.drop U).all h2).1
 rw [List.length_drop] at t7 t9
 rw [if_neg (by simp)]
 clear cg cs h1 h2 t1 t5
 refine wk ?_
 by_cases g3:(U:Int)+u2=bs.length
 case neg=>
  rw [decide_eq_true g3,fin_bad]
  refine wk ?_
  exact retP (r:=.agg (zNil ++ [pint 11])) rfl (lowB _) (bad _)
 rw [decide_eq_false (by simp [g3])]
 have cb:=pw_rBuild n s (by omega) (by omega)
 have hlf:Low (.agg (psumL (finZ (decM ⟨n,s,false⟩)).1 ++ [pint (finZ (decM ⟨n,s,false⟩)).2])):=.agg _ (by
  intro c hc
  rcases List.mem_append.1 hc with h|h
  ·exact low_psumL _ c h
  ·simp only [List.mem_cons,List.not_mem_nil,or_false] at h;subst h;exact .val _)
 generalize finZ (decM ⟨n,s,false⟩)=fz at *
 refine wk ?_
 exact retP (r:=.agg (psumL fz.1 ++ [pint fz.2])) rfl hlf (Weak.refl _)
end
end Go.Proofs.YtoamkpgaaanafaaGreat
