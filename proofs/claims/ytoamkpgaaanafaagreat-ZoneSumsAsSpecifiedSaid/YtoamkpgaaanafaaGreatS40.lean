/- Merged: SlicesS, Zx, Vg. -/
import Derived.Test.YtoamkpgaaanafaaGreatS11
import Derived.Test.YtoamkpgaaanafaaGreatS16
import Derived.Test.YtoamkpgaaanafaaGreatS34
import Derived.Test.YtoamkpgaaanafaaGreatS36
import Derived.Test.YtoamkpgaaanafaaGreatS39
/- The walks of slices.Grow, Concat over strings. -/
namespace Go.Proofs.YtoamkpgaaanafaaGreat
set_option linter.unusedSimpArgs false
set_option linter.unusedVariables false
set_option linter.unnecessarySimpa false
open Go.RowKit
end Go.Proofs.YtoamkpgaaanafaaGreat

/- zone: Join. -/
namespace Go.Proofs.YtoamkpgaaanafaaGreat
set_option linter.unusedSimpArgs false
set_option linter.unusedVariables false
set_option linter.unnecessarySimpa false
open Go.RowKit
section
variable {P:Program} {M:Nat} {Q:Exit→PS→Prop} {σ:PS}
end
def tJ (a b:PSum):TSt:=⟨mnI a.fromLo b.fromLo,mxI a.fromHi b.fromHi,mxI a.toHi b.toHi,mnI a.bornLo b.bornLo,mxI a.bornHi b.bornHi⟩
def WordsZ (f:PField):Prop:=f.words.length≤1000∧∀w∈f.words,w.size≤1000000000
end Go.Proofs.YtoamkpgaaanafaaGreat

/- The specification's Join, Of. -/
namespace Go.Proofs.YtoamkpgaaanafaaGreat
set_option linter.unusedSimpArgs false
set_option linter.unusedVariables false
set_option linter.unnecessarySimpa false
open Go.RowKit
noncomputable def joinRK (a b:PSum) (k:Nat):List PV:=((List.range k).map fun j=>joinR (a.fields.getD j default) (b.fields.getD j default)).flatMap pfldL
theorem joinRK_succ (a b:PSum) (k:Nat):joinRK a b (k+1)=joinRK a b k ++ pfldL (joinR (a.fields.getD k default) (b.fields.getD k default)):=by
 simp [joinRK,List.range_succ]
theorem low_joinRK (a b:PSum) (k:Nat):∀c∈joinRK a b k,Low c:=by
 intro c hc
 obtain ⟨z,-,hz⟩:=List.mem_flatMap.1 hc
 exact low_pfldL z c hz
set_option maxRecDepth 10000 in
set_option maxHeartbeats 8000000 in
theorem pw_rJoin (s:PSchema) (a b:PSum) (ha:SmallZ a) (hb:SmallZ b) (ca:CountZ a) (cb:CountZ b) (wa:∀k,WordsZ (a.fields.getD k default)) (wb:∀k,WordsZ (b.fields.getD k default)) (h0:s.defs.length≤1000000) (h1:s.defs.length≤a.fields.length) (h2:s.defs.length≤b.fields.length):PCalls Tryz.prog 44 [pschema s,psum a,psum b] (· = .agg (psumL (joinSum joinR s a b).1 ++ [pint (joinSum joinR s a b).2])):=by
 obtain ⟨x1,x2,x3,x4,x5⟩:=ha
 obtain ⟨y1,y2,y3,y4,y5⟩:=hb
 obtain ⟨⟨ca1,ca1'⟩,ca2⟩:=ca
 obtain ⟨⟨cb1,cb1'⟩,cb2⟩:=cb
 have c1:=pw_r6Join a.box b.box (by omega) (by omega) (by omega) (by omega)
 have c2:=pw_r9Join a.shells b.shells (by omega) (by omega)
 have hla:=low_psumL a
 have hlb:=low_psumL b
 have hls:=low_schCells s
 have hz1:∀c∈zNil ++ [pint 0],Low c:=by
  intro c hc
  rcases List.mem_append.1 hc with h|h
  ·exact low_zNil c h
  ·simp only [List.mem_cons,List.not_mem_nil,or_false] at h;subst h;exact .val _
 have hlS:Low (pshells (shJoin a.shells b.shells).1):=(low_pshells _).2 trivial
 have hlk:∀k,∀c∈zC (tJ a b) (a.count+b.count) (pints (boxJoin a.box b.box).1.lo) (pints (boxJoin a.box b.box).1.hi) (pshells (shJoin a.shells b.shells).1) (.sl k 4 (joinRK a b k) (some 100)),Low c:=fun k=>low_zC ((low_pints _).2 trivial) ((low_pints _).2 trivial) ((low_pshells _).2 trivial) (.sl _ _ _ _ (low_joinRK a b k))
 have bad:∀c:Int,Weak (.agg (zNil ++ [pint c])) (.agg (psumL zeroZ ++ [pint c])):=fun c=>Weak.agg (.cons (.refl _) (.cons (.nil 1) (.cons (.nil 1) (.cons (.nil 2) (.cons (.refl _) (.cons (.refl _) (.cons (.refl _) (.cons (.refl _) (.cons (.refl _) (.cons (.nil 4) (.cons (.refl _) .nil)))))))))))
 have lowB:∀c:Int,Low (.agg (zNil ++ [pint c])):=fun c=>.agg _ (by
  intro x hx
  rcases List.mem_append.1 hx with h|h
  ·exact low_zNil x h
  ·simp only [List.mem_cons,List.not_mem_nil,or_false] at h;subst h;exact .val _)
 refine PCalls.weak ?_
 refine pcalls_of_pw typeTab_ok Tryz.func44 rfl (by kernel_rfl) (by simp [low_pint,low_pints,low_pstr,low_pbool,low_pbox,low_pvecs,low_pentry,low_pentries,low_psum,low_pschema,low_pshells,low_pstrs,low_pfld,low_pdef]) (by simp [pint,pints,pstr,pbool,pbox,pvecs,pentry,pentries,psum,psumL,pschema,pshells,pstrs,pfld,pfldL,pdefL,PV.ownB]) (by rw [Tryz.ntmps44];simp) ?_
 rw [Tryz.ntmps44,Tryz.results44]
 unfold pbox pboxL at c1
 unfold joinSum
 by_cases e0:a.shells.length=b.shells.length
 rotate_left
 ·rw [if_pos e0]
  unfold psum psumL at *
  refine wk ?_
  exact retP (r:=.agg (zNil ++ [pint 1])) rfl (lowB 1) (bad 1)
 rw [if_neg (by simp [e0])]
 by_cases e1:4096 < a.count+b.count
 ·rw [if_pos e1]
  unfold psum psumL at *
  refine wk ?_
  exact retP (r:=.agg (zNil ++ [pint 2])) rfl (lowB 2) (bad 2)
 rw [if_neg e1]
 unfold psum
 refine wk ?_
 clear c1 c2
 have hlk0:=hlk 0
 refine PW.loop (fun k:Nat=>(bot.setb 0 (schCellsP s) |>.setb 1 (psumL a) |>.setb 2 (psumL b) |>.setb 3 (zNil ++ [pint 0]) |>.setb 7010 (zC (tJ a b) (a.count+b.count) (pints (boxJoin a.box b.box).1.lo) (pints (boxJoin a.box b.box).1.hi) (pshells (shJoin a.shells b.shells).1) (.sl k 4 (joinRK a b k) (some 100))) |>.put 3 (.ptr 0 0) |>.put 4 (.ptr 1 0) |>.put 5 (.ptr 2 0) |>.put 6 (.ptr 3 0) |>.put 9 (.ptr 7010 0) |>.put 10 (pint k))) (fun k=>k≤s.defs.length) (fun k=>s.defs.length - k) 0 (by omega) ?_ ?_
 ·exact sb
 intro k hk
 have hlkk:=hlk k
 by_cases hlt:k < s.defs.length
 ·obtain ⟨n1,n2⟩:=ca2 k
  obtain ⟨n3,n4⟩:=cb2 k
  obtain ⟨w1,w2⟩:=wa k
  obtain ⟨w3,w4⟩:=wb k
  have cj:=pw_rJoined (a.fields.getD k default) (b.fields.getD k default) (by omega) (by omega) ⟨n1,n2⟩ ⟨n3,n4⟩
  have hlk1:=hlk (k+1)
  rw [joinRK_succ] at hlk1
  have f1:=low_pfldL (a.fields.getD k default)
  have f2:=low_pfldL (b.fields.getD k default)
  unfold pfld at cj
  refine wk ?_
  refine loopP (k+1) (by omega) (by omega) ?_
  simp only [joinRK_succ]
  exact sb
 have hkk:k=s.defs.length:=by omega
 subst hkk
 refine wk ?_
 refine retP (r:=.agg (zC (tJ a b) (a.count+b.count) (pints (boxJoin a.box b.box).1.lo) (pints (boxJoin a.box b.box).1.hi) (pshells (shJoin a.shells b.shells).1) (.sl s.defs.length 4 (joinRK a b s.defs.length) none) ++ [pint 0])) rfl (.agg _ ?_) ?_
 ·intro c hc
  rcases List.mem_append.1 hc with h|h
  ·exact low_zC ((low_pints _).2 trivial) ((low_pints _).2 trivial) ((low_pshells _).2 trivial) (.sl _ _ _ _ (low_joinRK a b _)) c h
  ·simp only [List.mem_cons,List.not_mem_nil,or_false] at h;subst h;exact .val _
 ·refine Weak.agg ?_
  refine .cons (.refl _) (.cons (.refl _) (.cons (.refl _) (.cons (.refl _) (.cons (.refl _) (.cons (.refl _) (.cons (.refl _) (.cons (.refl _) (.cons (.refl _) (.cons ?_ (.cons (.refl _) .nil))))))))))
  rw [pflds,List.length_map,List.length_range]
  exact .refl _
end Go.Proofs.YtoamkpgaaanafaaGreat
