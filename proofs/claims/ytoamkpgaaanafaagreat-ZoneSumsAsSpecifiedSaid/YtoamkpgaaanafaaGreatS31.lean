/- Merged: Zt, PwSc. -/
import Derived.Test.YtoamkpgaaanafaaGreatS6
import Derived.Test.YtoamkpgaaanafaaGreatS30
/- zone: Bound, Seen. -/
namespace Go.Proofs.YtoamkpgaaanafaaGreat
set_option linter.unusedSimpArgs false
set_option linter.unusedVariables false
set_option linter.unnecessarySimpa false
open Go.RowKit
def zBound (s:PSchema) (z:PSum) (v keys:List Int):Int×Int:=
 if (boxNear s.metric z.box v).2≠0∨(lowP s.metric z.shells keys).2≠0 then (0,1) else (max (boxNear s.metric z.box v).1 (lowP s.metric z.shells keys).1,0)
set_option maxRecDepth 10000 in
set_option maxHeartbeats 1000000 in
theorem pw_zBound (s:PSchema) (z:PSum) (v keys:List Int) (hz:SmallZ z) (h1:v.length≤1000000) (h2:keys.length≤1000000):PCalls Tryz.prog 25 [pschema s,psum z,pints v,pints keys] (· = .tup [pint (zBound s z v keys).1,pint (zBound s z v keys).2]):=by
 obtain ⟨z1,z2,z3,z4,z5⟩:=hz
 have c1:=pw_boxNear s.metric z.box v z1 z2 h1
 have c2:=pw_pLow s.metric z.shells keys z3 h2
 have hlz:=low_psumL z
 have hls:=low_schCells s
 refine pcalls_of_pw typeTab_ok Tryz.func25 rfl (by kernel_rfl) (by simp [low_psum,low_pschema,low_pints]) (by simp [psum,psumL,pschema,pints,PV.ownB]) (by rw [Tryz.ntmps25];simp) ?_
 rw [Tryz.ntmps25,Tryz.results25]
 unfold zBound
 unfold psum psumL at *
 unfold pbox pboxL at c1
 generalize boxNear s.metric z.box v=r1 at *
 generalize lowP s.metric z.shells keys=r2 at *
 obtain ⟨a1,a2⟩:=r1
 obtain ⟨b1,b2⟩:=r2
 by_cases e1:a2=0
 ·by_cases e2:b2=0
  ·refine wk ?_
   refine retP (r:=.tup [pint (max a1 b1),pint 0]) ?_ (by simp [low_tup,low_pint]) (by rw [if_neg (by simp [e1,e2])])
   rw [show max a1 b1=(if b1 > a1 then b1 else a1) from by split<;>omega]
   rfl
  ·rw [if_pos (.inr e2)]
   refine wk ?_
   exact retP (r:=.tup [pint 0,pint 1]) rfl (by simp [low_tup,low_pint]) rfl
 ·rw [if_pos (.inl e1)]
  refine wk ?_
  exact retP (r:=.tup [pint 0,pint 1]) rfl (by simp [low_tup,low_pint]) rfl
structure PSnap where
 day:Int
 commit:Int
 deriving Inhabited
def psnap (a:PSnap):PV:=.agg [pint a.day,pint a.commit]
theorem low_psnap (a:PSnap):Low (psnap a)↔True:=by simp [psnap,low_agg,low_pint]
def zSeen (z:PSum) (a:PSnap):Bool:=decide (z.fromLo≤a.day) && (decide (a.day < z.toHi) && decide (z.bornLo≤a.commit))
set_option maxRecDepth 10000 in
set_option maxHeartbeats 1000000 in
theorem pw_zSeen (z:PSum) (a:PSnap):PCalls Tryz.prog 27 [psum z,psnap a] (· = pbool (zSeen z a)):=by
 refine pcalls_of_pw typeTab_ok Tryz.func27 rfl (by kernel_rfl) (by simp [low_psum,low_psnap]) (by simp [psum,psnap,PV.ownB]) (by rw [Tryz.ntmps27];simp) ?_
 rw [Tryz.ntmps27,Tryz.results27]
 unfold zSeen
 have hlz:=low_psumL z
 unfold psum psumL psnap at *
 by_cases e1:z.fromLo≤a.day
 ·by_cases e2:a.day < z.toHi
  ·by_cases e3:z.bornLo≤a.commit
   ·refine wk ?_
    exact retP rfl (by exact lw) (by simp [pbool,e1,e2,e3])
   ·refine wk ?_
    exact retP rfl (by exact lw) (by simp [pbool,e3])
  ·refine wk ?_
   exact retP rfl (by exact lw) (by simp [pbool,e2])
 ·refine wk ?_
  exact retP rfl (by exact lw) (by simp [pbool,e1])
end Go.Proofs.YtoamkpgaaanafaaGreat

/- A scope with labels through which the run goes without a jump back, over pure states. -/
namespace Go.Proofs.YtoamkpgaaanafaaGreat
set_option linter.unusedSimpArgs false
set_option linter.unusedVariables false
set_option linter.unnecessarySimpa false
open Go.RowKit
section
variable {P:Program} {b:Frame} {a:Act} {k:List Item} {cs:List Frame} {w:World}
theorem stepR_scope {c:Code} : step P (lone (b.atR a (.code (.scope c) :: k)) cs w) = .next (lone (b.atR a (.code c :: .inScope c :: k)) cs w):=
 step_lone_go (by simp [stepG,stepG.exec,Frame.atR])
theorem stepR_inScope {c:Code} : step P (lone (b.atR a (.inScope c :: k)) cs w) = .next (lone (b.atR a k) cs w):=
 step_lone_go (by simp [stepG,stepG.exec,Frame.atR])
theorem wpIn_scope {F:Fence} {n:Nat} {Q:Exit→Act→World→Prop} {c:Code} (h:c.wpIn F n P (fun e a w=>match e with | .goto _=>False|e=>Q e a w) a w):(Code.scope c).wpIn F n P Q a w:=by
 intro b k cs hro hb hr
 have h0:(lone (b.atR a (.code (.scope c) :: k)) cs w).fenced P F:=fenced_calm hb hr rfl
 obtain ⟨e,a₁,w₁,hq,harr⟩:=h b (.inScope c :: k) cs hro hb hr
 cases e with
 |normal=>exact ⟨.normal,a₁,w₁,hq, .head h0 stepR_scope (StepsIn.trans harr (.one (fenced_calm hb hr rfl) stepR_inScope))⟩
 |exit id=>
  have hx:exitTo id (.inScope c :: k)=exitTo id k:=by simp [exitTo]
  exact ⟨.exit id,a₁,w₁,hq,fun k' hk=>.head h0 stepR_scope (harr.1 k' (by rw [hx];exact hk)),
   fun hr' hk=>let ⟨k₁,h1,h2⟩:=harr.2 hr' (by rw [hx];exact hk); ⟨k₁,h1, .head h0 stepR_scope h2⟩⟩
 |goto l=>exact hq.elim
 |ret=>exact ⟨_,a₁,w₁,hq, .of_steps (.one h0 stepR_scope) harr⟩
 |panic ch=>exact ⟨_,a₁,w₁,hq, .of_steps (.one h0 stepR_scope) harr⟩
 |outgrown=>exact ⟨_,a₁,w₁,hq, .of_steps (.one h0 stepR_scope) harr⟩
end
section
variable {P:Program} {M:Nat} {Q:Exit→PS→Prop} {σ:PS}
def ScopeP (Q:Exit→PS→Prop):Exit→PS→Prop
 | .goto _,_=>False
 |e,σ=>Q e σ
theorem PW.scope {c:Code} (h:PW P M c (ScopeP Q) σ):PW P M (.scope c) Q σ:=by
 intro Φ0 W a w hr
 refine wpIn_scope (wpIn_mono (h Φ0 W a w hr) ?_)
 rintro e a' w' ⟨σ',Φ1,W1,h1,h2⟩
 cases e with
 |goto i=>exact h1
 |_=>exact ⟨σ',Φ1,W1,h1,h2⟩
theorem scopeP_ret (h:Q .ret σ):ScopeP Q .ret σ:=h
end
end Go.Proofs.YtoamkpgaaanafaaGreat
