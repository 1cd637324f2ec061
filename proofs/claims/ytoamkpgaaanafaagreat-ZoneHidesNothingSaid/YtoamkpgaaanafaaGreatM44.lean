/- Out of: Ub. -/
import Derived.Test.YtoamkpgaaanafaaGreatM41
import Derived.Test.YtoamkpgaaanafaaGreatM42
namespace Go.Proofs.YtoamkpgaaanafaaGreat
set_option linter.unusedSimpArgs false
set_option linter.unusedVariables false
set_option linter.unnecessarySimpa false
section
open Go.RowKit
set_option maxRecDepth 10000 in
set_option maxHeartbeats 8000000 in
theorem pw_sanity:PCalls Tryz.prog 14 [] (· = pbool true):=by
 have c0:=pw_example
 have c1:PCalls Tryz.prog 15 [pschema exS, .nilsl,pentries [exA,exB]] (· = .tup [psum exZ,pint 0]):=by
  have:=pw_zOf exS [] [exA,exB] smallS_ex (by simp) (by simp) (by simp) (fun k hk=>by
   match k,hk with
   |0,_=>exact ⟨by decide,by decide,by decide⟩
   |1,_=>exact ⟨by decide,by decide,by decide⟩)
  rw [zOf_ex] at this
  exact this.weakA (.cons (.refl _) (.cons (.nil 1) (.cons (.refl _) .nil)))
 have c2:PCalls Tryz.prog 17 [psum exZ,exWant] (· = pbool true):=by
  have:=pw_rSame exZ exZ exEnc exEnc
  rw [show ((strI (encZ exZ)).toList == (strI (encZ exZ)).toList)=true by simp] at this
  exact this.weakA (.cons (.refl _) (.cons weak_want .nil))
 have c3:PCalls Tryz.prog 19 [pschema exS,pint 0,psum exZ] (· = pbool true):=by
  have:=pw_sumValid exS 0 exZ smallZ_ex (by decide) (fun k=>by
   match k with
   |0=>decide
   |1=>decide
   |k+2=>exact (by decide:(0:Nat)≤1000000))
  rw [ex1] at this
  exact this
 have c4:PCalls Tryz.prog 25 [pschema exS,psum exZ,pints [0], .nilsl] (· = .tup [pint 3,pint 0]):=by
  have:=pw_zBound exS exZ [0] [] smallZ_ex (by decide) (by decide)
  rw [ex2] at this
  exact this.weakA (.cons (.refl _) (.cons (.refl _) (.cons (.refl _) (.cons (.nil 1) .nil))))
 have c5:=canOf ex3 rfl (okP_ex (by decide) (by decide) (by rw [exF1];decide))
 have c6:=canOf ex4 rfl (okP_ex (by decide) (by decide) (by rw [exF2];decide))
 have c7:=canOf ex5 rfl (okP_ex (by decide) (by decide) (by rw [exF1];decide))
 have c8:=pw_zSeen exZ ⟨0,9⟩
 have c9:=pw_zSeen exZ ⟨1,0⟩
 have c10:=pw_zSeen exZ ⟨3,2⟩
 rw [ex6] at c8
 rw [ex7] at c9
 rw [ex8] at c10
 have c11:=obeysOf (e:=exA) ex9 rfl (by decide)
 have c12:=obeysOf (e:=exO) ex10 rfl (by decide)
 have l1:=low_schCells exS
 have l2:=low_psumL exZ
 have l3:=low_entCells exA
 have l4:=low_entCells exO
 have l5:Low (pentries [exA,exB]):=(low_pentries _).2 trivial
 have l6:∀c ∈ [pint 2,pints [3],pints [7], .nilsl,pint 1,pint 5,pint 1048577,pint 1,pint 4, .sl 2 4 [pint 2,pint 0,pint 0, .sl 2 1 [pstr nBlue,pstr nRed] none,pint 1,pint 2,pint 2, .nilsl] none],Low c:=by
  simp [low_pints,low_pint,low_sl,low_pstr,low_nilsl]
 refine pcalls_of_pw typeTab_ok Tryz.func14 rfl (by kernel_rfl) (by simp) (by simp) (by rw [Tryz.ntmps14];simp) ?_
 rw [Tryz.ntmps14,Tryz.results14]
 have hl2 : [exA,exB].length=2:=rfl
 have hl3:exA.attrs.length=1:=rfl
 unfold exWant at c2
 unfold prRaw p1 at c5
 unfold prRaw p2 at c6
 unfold prRaw p3 at c7
 unfold psnap at c8 c9 c10
 refine wk ?_
 exact retP rfl (by exact lw) rfl
end
end Go.Proofs.YtoamkpgaaanafaaGreat
