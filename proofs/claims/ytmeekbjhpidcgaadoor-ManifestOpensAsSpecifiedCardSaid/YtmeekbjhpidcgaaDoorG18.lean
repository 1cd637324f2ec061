/- Out of: Db, PwCl. -/
import Derived.Test.YtmeekbjhpidcgaaDoorG15
import Derived.Test.YtmeekbjhpidcgaaDoorG16
namespace Go.Proofs.YtmeekbjhpidcgaaDoor
set_option linter.unusedSimpArgs false
set_option linter.unusedVariables false
set_option linter.unnecessarySimpa false
section
open Go.RowKit
def DM.check (D:DM) (i:Int):Int:=if D.dead then 220 else if i < 0∨(D.cells.length:Int)≤i then 1 else 0
def DM.step (D:DM):Int×DM:=if D.after=0 then (220,{ D with dead:=true }) else (0,{ D with steps:=D.steps+1,after:=if 0 < D.after then D.after - 1 else D.after })
set_option maxRecDepth 10000 in
set_option maxHeartbeats 1000000 in
theorem dc_Size (D:DM):DCalls 19 [] D (pint D.cells.length) D:=by
 refine dcalls_of_pw Tryd.func19 rfl rfl (by simp) (by simp) (by decide) (.val _) ?_
 refine wk ?_
 exact RetH.mk rfl (Weak.refl _) ⟨⟨_,rfl,WeakL.refl _⟩,⟨_,rfl,WeakL.refl _⟩,trivial⟩ ⟨⟨rfl,rfl⟩,trivial⟩
set_option maxRecDepth 10000 in
set_option maxHeartbeats 1000000 in
theorem dc_Down (D:DM):DCalls 20 [] D (pbool D.dead) D:=by
 refine dcalls_of_pw Tryd.func20 rfl rfl (by simp) (by simp) (by decide) (.val _) ?_
 refine wk ?_
 exact RetH.mk rfl (Weak.refl _) ⟨⟨_,rfl,WeakL.refl _⟩,⟨_,rfl,WeakL.refl _⟩,trivial⟩ ⟨⟨rfl,rfl⟩,trivial⟩
set_option maxRecDepth 10000 in
set_option maxHeartbeats 1000000 in
theorem dc_check (D:DM) (i:Int):DCalls 35 [pint i] D (pint (D.check i)) D:=by
 refine dcalls_of_pw Tryd.func35 rfl rfl (by exact lw) (by simp [pint,PV.ownB]) (Nat.le_of_ble_eq_true rfl) (by exact lw) ?_
 obtain ⟨cells,op,clock,steps,after,dead⟩:=D
 cases dead
 ·by_cases h1:i < 0
  ·have hc:DM.check ⟨cells,op,clock,steps,after,false⟩ i=1:=by simp [DM.check,h1]
   rw [hc]
   refine wk ?_
   exact RetH.mk rfl (Weak.refl _) ⟨⟨_,rfl,WeakL.refl _⟩,⟨_,rfl,WeakL.refl _⟩,trivial⟩ ⟨⟨rfl,rfl⟩,trivial⟩
  ·by_cases h2:(cells.length:Int)≤i
   ·have hc:DM.check ⟨cells,op,clock,steps,after,false⟩ i=1:=by simp [DM.check,h2]
    rw [hc]
    refine wk ?_
    exact RetH.mk rfl (Weak.refl _) ⟨⟨_,rfl,WeakL.refl _⟩,⟨_,rfl,WeakL.refl _⟩,trivial⟩ ⟨⟨rfl,rfl⟩,trivial⟩
   ·have hc:DM.check ⟨cells,op,clock,steps,after,false⟩ i=0:=by simp [DM.check,h1,h2]
    rw [hc]
    refine wk ?_
    exact RetH.mk rfl (Weak.refl _) ⟨⟨_,rfl,WeakL.refl _⟩,⟨_,rfl,WeakL.refl _⟩,trivial⟩ ⟨⟨rfl,rfl⟩,trivial⟩
 ·have hc:DM.check ⟨cells,op,clock,steps,after,true⟩ i=220:=by simp [DM.check]
  rw [hc]
  refine wk ?_
  exact RetH.mk rfl (Weak.refl _) ⟨⟨_,rfl,WeakL.refl _⟩,⟨_,rfl,WeakL.refl _⟩,trivial⟩ ⟨⟨rfl,rfl⟩,trivial⟩
set_option maxRecDepth 10000 in
set_option maxHeartbeats 1000000 in
theorem dc_step (D:DM) (h:0≤D.steps∧D.steps≤1000000000 ∧ -1≤D.after) (h2:D.after≤9223372036854775807):DCalls 49 [] D (pint D.step.1) D.step.2:=by
 refine dcalls_of_pw Tryd.func49 rfl rfl (by simp) (by simp) (by decide) (by exact lw) ?_
 obtain ⟨cells,op,clock,steps,after,dead⟩:=D
 simp only at h h2
 by_cases h1:after=0
 ·have hc:DM.step ⟨cells,op,clock,steps,after,dead⟩=(220,⟨cells,op,clock,steps,after,true⟩):=by simp [DM.step,h1]
  rw [hc]
  refine wk ?_
  exact RetH.mk rfl (Weak.refl _) ⟨⟨_,rfl,WeakL.refl _⟩,⟨_,rfl,WeakL.refl _⟩,trivial⟩ ⟨⟨rfl,rfl⟩,trivial⟩
 ·by_cases h3:0 < after
  ·have hc:DM.step ⟨cells,op,clock,steps,after,dead⟩=(0,⟨cells,op,clock,steps+1,after - 1,dead⟩):=by simp [DM.step,h1,h3]
   rw [hc]
   refine wk ?_
   exact RetH.mk rfl (Weak.refl _) ⟨⟨_,rfl,WeakL.refl _⟩,⟨_,rfl,WeakL.refl _⟩,trivial⟩ ⟨⟨rfl,rfl⟩,trivial⟩
  ·have hc:DM.step ⟨cells,op,clock,steps,after,dead⟩=(0,⟨cells,op,clock,steps+1,after,dead⟩):=by simp [DM.step,h1,h3]
   rw [hc]
   refine wk ?_
   exact RetH.mk rfl (Weak.refl _) ⟨⟨_,rfl,WeakL.refl _⟩,⟨_,rfl,WeakL.refl _⟩,trivial⟩ ⟨⟨rfl,rfl⟩,trivial⟩
end
section
open Go.RowKit
variable {Φ0:Ent} {W:World} {M:Nat} {Φ:Imm} {μ:Nat→Option Nat} {ω:Nat→Option Who} {σ:PS} {a:Act} {w:World} {P:Program} {T:Tab}
theorem clr_does (hT:T=tabOf P) (h:RelG Φ0 W M Φ μ ω σ a w) (o:Oper) (hd:o.dst=none) {t:TypeId} {x:Operand} (hop:o.op = .call { callee:=.builtin .clear,args := #[x],argTypes := #[t] })
  {ti:TyI} (ht:T.at t=some ti) {e k by_ id off n:Nat} {zr bs:List PV} (hk:ti.kind = .slice e k by_ zr) (hx:pev σ x = .msl id off n k) (hb:σ.b id=some bs) (hle:off+n * k≤bs.length) :
  Does P Φ0 W M a w o { t:=σ.t,b:=upd σ.b id (some (splice bs off (List.replicate n zr).flatten)),m:=σ.m }:=by
 obtain ⟨hu,i,z,e1,e2,e3,e4,e5,e6,e7,e8⟩:=slice_get (tab_at hT ht) hk
 subst e8
 have hzr:=zero_rows (Φ:=Φ) (μ:=μ) (len:=n) (z:=z.cells) e5 e6 (repL_pv0 _) e7 (by intro c hc;obtain ⟨v,-,rfl⟩:=List.mem_map.1 hc;exact pv0_own v)
 have hxr:=h.ev x
 rw [hx] at hxr
 obtain ⟨ad,cap,hxv,c1,c2,c4⟩:=hxr.msl_inv
 have hlen:((List.replicate n (z.cells.toList.map pv0)).flatten).length=n * k:=by
  rw [←hzr.1.1];simp
 subst e5
 have hrun:∀w',(match (a.eval x) with | .slice (some ad) (m+1) _=>storeCells ad ((Array.range (n * z.cells.size)).map (fun i=>z.cells[i % z.cells.size]!)).toList|_=>pure ():Sem Unit).run P w = .ok () w'→(execOp a.eval o).run P w = .ok (.value (.tuple #[])) w':=by
  intro w' hst
  rw [hxv] at hst
  simp only [execOp,hop,resolve,invoke,builtin,Sem.run_bind,Sem.run_pure,Result.andThen_ok,List.map_toArray,List.map_cons,List.map_nil,Builtin.clear_,List.getElem?_toArray,List.getElem?_cons_zero,run_underlying hu,hxv]
  cases ad with
  |none=>simp only [Sem.run_pure] at hst;cases hst;simp
  |some ad=>
   cases n with
   |zero=>simp only [Sem.run_pure] at hst;cases hst;simp
   |succ n=>
    simp only at hst
    simp only [zeroValue,typeInfo,run_program,Result.andThen_ok,e1,e2,Sem.run_bind,Sem.run_pure,Builtin.zeroCells,hst]
 rcases Nat.eq_zero_or_pos n with h0|h0
 ·subst h0
  have hbb:upd σ.b id (some (splice bs off (List.replicate 0 (List.map pv0 z.cells.toList)).flatten))=σ.b:=by
   funext q
   simp only [upd_if]
   split
   ·rename_i e;subst e
    simp [splice,hb]
   ·rfl
  refine ⟨_, .tuple #[],w,hrun w ?_, .inl rfl,Φ,μ,ω,by rw [hd,hbb];exact h⟩
  rw [hxv]
  cases ad<;>simp
 ·obtain ⟨g,hg,rfl⟩:=c4 h0
  obtain ⟨w',q1,q2⟩:=h.store (P:=P) hb hzr (off:=off) (by rw [hlen];exact hle) hg
  refine ⟨_, .tuple #[],w',hrun w' ?_, .inl rfl,Φ,μ,ω,by rw [hd];exact q2⟩
  rw [hxv]
  obtain ⟨m,rfl⟩:∃m,n=m+1:=⟨n - 1,by omega⟩
  exact q1
end
section
open Go.RowKit
variable {P:Program} {T:Tab} {σ:PS} {o:Oper} {i base:Nat} {ops:Array Oper} {ok:Nat→Nat→Bool} {rest:List (Nat×Oper)} {K:PS→Prop}
theorem PWops.clrM {e k by_ id off n:Nat} {zr bs out:List PV} {t:TypeId} {x:Operand} {ti:TyI} (hT:T=tabOf P) (hg:pguard ops σ o=some true) (hok:∀j id,ok j id=true) (hd:o.dst=none) (hop:o.op = .call { callee:=.builtin .clear,args := #[x],argTypes := #[t] }) (ht:T.at t=some ti) (hk:ti.kind = .slice e k by_ zr) (hx:pev σ x = .msl id off n k) (hb:σ.b id=some bs) (hle:off+n * k≤bs.length)
  (hout:splice bs off (List.replicate n zr).flatten=out) (kn:PWops P T ops base ok rest K (σ.setb id out)):PWops P T ops base ok ((i,o) :: rest) K σ:=by
 subst hout
 refine PWops.sem (E:=⟨.tup [],[(id,splice bs off (List.replicate n zr).flatten)],none,[]⟩) hg hok ?_ (by rw [hd];exact kn)
 intro Φ0 W M a w hM hrel
 obtain ⟨Φ,μ,ω,hr⟩:=hrel
 have:=clr_does hT hr o hd hop ht hk hx hb hle
 rw [hd]
 rw [hd] at *
 exact this
theorem PWops.slcMs {d id o' n k e by_ h l:Nat} {zr:List PV} {x:Operand} {lo hi:Option Operand} {t:TypeId} {ti:TyI} (hg:pguard ops σ o=some true) (hd:o.dst=some d) (hop:o.op = .slice t x lo hi none) (hx:pev σ x = .msl id o' n k) (ht:T.at t=some ti) (hk:ti.kind = .slice e k by_ zr) (hb:σ.freeB (base+i)=true) (hh:pbound n n (hi.map (pev σ))=some h) (hlo:pbound 0 h (lo.map (pev σ))=some l)
  (kn:PWops P T ops base ok rest K (σ.put d (.msl id (o' + l * k) (h - l) k))):PWops P T ops base ok ((i,o) :: rest) K σ:=by
 refine pres_pval hg hd ?_ hb kn
 have e1:∀x:Operand,pev (σ.only (ok i)) x=pev σ x:=fun x=>pev_only ..
 have e2:∀x:Option Operand,x.map (pev (σ.only (ok i)))=x.map (pev σ):=fun x=>by cases x<;>simp [e1]
 simp [hop,presE,pvalA,pval,pev_only,e2,hx,ht,hk,pslice,hh,hlo]
end
end Go.Proofs.YtmeekbjhpidcgaaDoor
