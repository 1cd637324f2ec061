/- Out of: De, Dh. -/
import Derived.Test.YtmeekbjhpidcgaaDoorG21
namespace Go.Proofs.YtmeekbjhpidcgaaDoor
set_option linter.unusedSimpArgs false
set_option linter.unusedVariables false
set_option linter.unnecessarySimpa false
section
open Go.RowKit
theorem wrap_u8 (z:Int):0≤IntKind.u8.wrap z∧IntKind.u8.wrap z < 256:=by
 have h:IntKind.u8.wrap z=z % 256:=rfl
 rw [h];omega
end
section
open Go.RowKit
variable {P:Program} {T:Tab} {σ:PS} {o:Oper} {i base:Nat} {ops:Array Oper} {ok:Nat→Nat→Bool} {rest:List (Nat×Oper)} {K:PS→Prop}
theorem PWops.mkS {d e k by_:Nat} {x:Int} {kx ky:IntKind} {out zr:List PV} {X Y:Operand} {t:TypeId} {ti:TyI} (hg:pguard ops σ o=some true) (hd:o.dst=some d) (hop:o.op = .makeSlice t X Y) (hx:pev σ X = .val (.int kx x)) (hy:pev σ Y = .val (.int ky x)) (ht:T.at t=some ti) (hk:ti.kind = .slice e k by_ zr) (hb:σ.freeB (base+i)=true) (hc:0≤x∧(by_:Int) * x≤281474976710656∧x≤9223372036854775807) (hout:(List.replicate x.toNat zr).flatten=out)
  (kn:PWops P T ops base ok rest K ((σ.setb (base+i) out).put d (.msl (base+i) 0 x.toNat k))):PWops P T ops base ok ((i,o) :: rest) K σ:=by
 refine PWops.step hg (E:=⟨.msl (base+i) 0 x.toNat k,[(base+i,out)],none,[]⟩) ?_ hb (by rw [hd];exact kn)
 have h1:(σ.only (ok i)).b (base+i)=none∧(σ.only (ok i)).m (base+i)=none:=by
  obtain ⟨q1,q2⟩:=PS.freeB_spec hb
  simp only [PS.only,q1,q2]
  constructor<;>split<;>rfl
 have h2:0≤x∧x=x∧(by_:Int) * x≤281474976710656∧x≤9223372036854775807:=⟨hc.1,rfl,hc.2.1,hc.2.2⟩
 have h3:pmake k by_ zr x x=some (x.toNat,out):=by unfold pmake;rw [if_pos h2,hout]
 simp only [hop,presE,ht,pev_only,hx,hy,h1.1,h1.2,hk,h3]
theorem PWops.mkM {d:Nat} {t:TypeId} (hg:pguard ops σ o=some true) (hd:o.dst=some d) (hop:o.op = .makeMap t none) (hb:σ.freeB (base+i)=true)
  (kn:PWops P T ops base ok rest K ((σ.setm (base+i) (.map [] 0)).put d (.mref (base+i)))):PWops P T ops base ok ((i,o) :: rest) K σ:=by
 refine PWops.stepM hg (E:=⟨.mref (base+i),[],none,[(base+i, .map [] 0)]⟩) ?_ hb (by rw [hd];exact kn)
 have h1:(σ.only (ok i)).b (base+i)=none∧(σ.only (ok i)).m (base+i)=none:=by
  obtain ⟨q1,q2⟩:=PS.freeB_spec hb
  simp only [PS.only,q1,q2]
  constructor<;>split<;>rfl
 simp only [hop,presM,h1.1,h1.2]
end
section
open Go.RowKit
def newD (n:Nat):DM:=⟨List.replicate n ⟨zeroSec,false⟩,[],0,0,-1,false⟩
theorem newD_cells (n:Nat):(List.replicate n (List.replicate 64 (.val (.int .u8 0)) ++ [pbool false])).flatten=dC (newD n):=by
 unfold dC newD
 have:(List.replicate 64 (.val (.int .u8 0)) ++ [pbool false]:List PV)=dcellL ⟨zeroSec,false⟩:=rfl
 rw [this]
 generalize (⟨zeroSec,false⟩:DCell)=z
 show _=(List.replicate n z).flatMap dcellL
 induction n with
 |zero=>rfl
 |succ n ih=>rw [List.replicate_succ,List.replicate_succ,List.flatten_cons,List.flatMap_cons,ih]
set_option maxRecDepth 10000 in
set_option maxHeartbeats 1000000 in
theorem dc_New1 (n:Int) (h:1≤n∧n≤65536):HCalls Tryd.prog 7 [pint n] [] [] (.ptr 3004 0) (dG 3004 3001 3002 (newD n.toNat)) (dMs 3002 (newD n.toNat)):=by
 refine hcalls_of_pw typeTab_ok Tryd.func7 rfl rfl (by simp [pint,PV.ownB]) (Nat.le_of_ble_eq_true rfl) (by simp [ResIds]) (by simp [ResIds]) ⟨by intro p hp;simp at hp;subst hp;exact .val _,by simp,by simp, .ptr _ _ (by simp [ResIds,dG]),fun x hx=>?_,fun x hx=>?_,by simp,by simp⟩ ?_
 ·simp only [dG,List.mem_cons,List.not_mem_nil,or_false] at hx
  rcases hx with rfl|rfl
  ·exact dB_lowI (by simp [ResIds,dG]) (by simp [ResIds,dMs]) _
  ·exact fun p hp=>(dC_low _ p hp).lowI
 ·simp only [dMs,List.mem_cons,List.not_mem_nil,or_false] at hx
  subst hx
  exact fun e he=>⟨(dM_low _ e he).1.lowI,(dM_low _ e he).2.lowI⟩
 refine wk ?_
 refine PWops.mkS (out:=dC (newD n.toNat)) rfl rfl rfl rfl rfl rfl rfl rfl ?_ (newD_cells _) ?_
 ·refine ⟨by omega,?_,by omega⟩
  omega
 refine wk ?_
 refine PWops.mkM rfl rfl rfl rfl ?_
 refine wk ?_
 exact RetH.mk rfl (Weak.refl _) ⟨⟨_,rfl,WeakL.eq (by simp [dB,newD];exact ⟨rfl,rfl,rfl⟩)⟩,⟨_,rfl,WeakL.refl _⟩,trivial⟩ ⟨⟨rfl,rfl⟩,trivial⟩
def newIds (d c m i:Nat):Nat:=if i=3004 then d else if i=3001 then c else if i=3002 then m else i
theorem dc_New (n:Int) (h:1≤n∧n≤65536) (d c m:Nat) (hnd:(ids3 d c m).Nodup):HCalls Tryd.prog 7 [pint n] [] [] (.ptr d 0) (dG d c m (newD n.toNat)) (dMs m (newD n.toNat)):=by
 have r3:ResIds (dG 3004 3001 3002 (newD n.toNat)) (dMs 3002 (newD n.toNat)) = [3004,3001,3002]:=rfl
 refine (dc_New1 n h).ren (newIds d c m) (by simp) (by simp) ?_ (.cons (.low _ (.val _)) .nil) .nil .nil (.ptr 3004 0 (by rw [r3];decide)) (.cons 3004 _ _ _ _ (.cons (.msl 3001 0 _ _ (by rw [r3];decide)) (.cons (.mref 3002 (by rw [r3];decide)) (.cons (.low _ (.val _)) (.cons (.low _ (.val _)) (.cons (.low _ (.val _)) .nil))))) (.cons 3001 _ _ _ _ (.low (dC_low _)) .nil)) (.cons 3002 _ _ _ _ (.low (dM_low _)) .nil)
 rw [r3]
 simp only [ids3,List.nodup_cons,List.mem_cons,List.not_mem_nil,or_false,not_or,List.nodup_nil,and_true,not_false_eq_true] at hnd
 obtain ⟨⟨n1,n2⟩,n3⟩:=hnd
 intro i hi j hj e
 simp only [List.mem_cons,List.not_mem_nil,or_false] at hi hj
 rcases hi with rfl|rfl|rfl<;>rcases hj with rfl|rfl|rfl<;>simp [newIds] at e ⊢ <;> first|exact absurd e n1|exact absurd e n2|exact absurd e n3|exact absurd e.symm n1|exact absurd e.symm n2|exact absurd e.symm n3
end
end Go.Proofs.YtmeekbjhpidcgaaDoor
