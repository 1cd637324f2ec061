/- Out of: PwSc. -/
import Derived.Test.YtoamkpgaaanafaaGreatM11
namespace Go.Proofs.YtoamkpgaaanafaaGreat
set_option linter.unusedSimpArgs false
set_option linter.unusedVariables false
set_option linter.unnecessarySimpa false
section
open Go.RowKit
variable {P:Program} {b:Frame} {a:Act} {k:List Item} {cs:List Frame} {w:World}
theorem stepR_scope {c:Code} : step P (lone (b.atR a (.code (.scope c) :: k)) cs w) = .next (lone (b.atR a (.code c :: .inScope c :: k)) cs w):=
 step_lone_go (by simp [stepG,stepG.exec,Frame.atR])
theorem stepR_inScope {c:Code} : step P (lone (b.atR a (.inScope c :: k)) cs w) = .next (lone (b.atR a k) cs w):=
 step_lone_go (by simp [stepG,stepG.exec,Frame.atR])
theorem wpIn_scope {F:Fence} {n:Nat} {Q:Exit→Act→World→Prop} {c:Code} (h:c.wpIn F n P (fun e a w=>match e with | .goto _=>False|e=>Q e a w) a w):(Code.scope c).wpIn F n P Q a w:=by
 intro b k cs hro hb hr
 have h0:(lone (b.atR a (.code (.scope c) :: k)) cs w).fenced P F:=fenced_calm hb hr rfl
 obtain ⟨e,a₁,w₁,hq,harr⟩:=h b (.inScope c :: k) cs hro hb hr
 cases e with
 |normal=>exact ⟨.normal,a₁,w₁,hq, .head h0 stepR_scope (StepsIn.trans harr (.one (fenced_calm hb hr rfl) stepR_inScope))⟩
 |exit id=>
  have hx:exitTo id (.inScope c :: k)=exitTo id k:=by simp [exitTo]
  exact ⟨.exit id,a₁,w₁,hq,fun k' hk=>.head h0 stepR_scope (harr.1 k' (by rw [hx];exact hk)),
   fun hr' hk=>let ⟨k₁,h1,h2⟩:=harr.2 hr' (by rw [hx];exact hk); ⟨k₁,h1, .head h0 stepR_scope h2⟩⟩
 |goto l=>exact hq.elim
 |ret=>exact ⟨_,a₁,w₁,hq, .of_steps (.one h0 stepR_scope) harr⟩
 |panic ch=>exact ⟨_,a₁,w₁,hq, .of_steps (.one h0 stepR_scope) harr⟩
 |outgrown=>exact ⟨_,a₁,w₁,hq, .of_steps (.one h0 stepR_scope) harr⟩
end
section
open Go.RowKit
variable {P:Program} {M:Nat} {Q:Exit→PS→Prop} {σ:PS}
def ScopeP (Q:Exit→PS→Prop):Exit→PS→Prop
 | .goto _,_=>False
 |e,σ=>Q e σ
theorem PW.scope {c:Code} (h:PW P M c (ScopeP Q) σ):PW P M (.scope c) Q σ:=by
 intro Φ0 W a w hr
 refine wpIn_scope (wpIn_mono (h Φ0 W a w hr) ?_)
 rintro e a' w' ⟨σ',Φ1,W1,h1,h2⟩
 cases e with
 |goto i=>exact h1
 |_=>exact ⟨σ',Φ1,W1,h1,h2⟩
theorem scopeP_ret (h:Q .ret σ):ScopeP Q .ret σ:=h
end
end Go.Proofs.YtoamkpgaaanafaaGreat
