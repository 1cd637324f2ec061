/- Out of: RegionB, PwCl, PwWt, PwWb, PwFb, Laid. -/
import Derived.Test.YtmciloafahkolaaGreatDoorG4
namespace Go.Proofs.YtmciloafahkolaaGreatDoor
set_option maxRecDepth 100000
set_option maxHeartbeats 40000000
set_option linter.unusedSimpArgs false
set_option linter.unusedVariables false
set_option linter.unnecessarySimpa false
section
open Go.RowKit
structure Spec where
 p:Value→World→Prop
 st:∀v w w',p v w→Below w.heap.size w w'→p v w'
def Spec.any:Spec:=⟨fun _ _=>True,fun _ _ _ h _=>h⟩
def Spec.rd (cs:List Value):Spec:=⟨fun v w=>Rd w v cs,fun _ _ _ h hb=>h.below hb⟩
def LeB (w w' : World):Prop:=Below w.heap.size w w'
theorem LeB.trans (x y z:World) (h:LeB x y) (k:LeB y z):LeB x z:=Below.trans h (Below.mono k h.size)
def X0x (F:Nat→Oper→Prop):Nat→List Oper→Prop
 |_,[]=>True
 |i,o :: os=>F i o∧X0x F (i+1) os
theorem X0x.get {F:Nat→Oper→Prop} : ∀{l:List Oper} {k:Nat},X0x F k l→∀(i:Nat) (o:Oper),l[i]? = some o→F (k+i) o
 | [],_,_,i,o,h=>by simp at h
 |x :: xs,k,⟨h1,h2⟩,0,o,h=>by simp at h;subst h;exact h1
 |x :: xs,k,⟨h1,h2⟩,i+1,o,h=>by
  have:=X0x.get h2 i o (by simpa using h)
  rw [show k+(i+1)=k+1+i by omega];exact this
theorem X0x.of {F:Nat→Oper→Prop} : ∀(l:List Oper) (k:Nat),(∀(i:Nat) (o:Oper),l[i]? = some o→F (k+i) o)→X0x F k l
 | [],_,_=>trivial
 |x :: xs,k,h=>⟨h 0 x S_,X0x.of xs (k+1) (fun i o hi=>by rw [show k+1+i=k+(i+1) by omega];exact h (i+1) o (by simpa using hi))⟩
end
section
open Go.RowKit
variable {Φ0:Ent} {W:World} {M:Nat} {Φ:Imm} {μ:Nat→Option Nat} {ω:Nat→Option Who} {σ:PS} {a:Act} {w:World} {P:Program} {T:Tab}
theorem Xzc (hT:T=Kf P) (h:RelG Φ0 W M Φ μ ω σ a w) (o:Oper) (hd:o.dst=none) {t:TypeId} {x:Operand} (hop:o.op = .call { callee:=.builtin .clear,args := #[x],argTypes := #[t] })
  {ti:TyI} (ht:T.at t=some ti) {e k by_ id off n:Nat} {zr bs:List PV} (hk:ti.kind = .slice e k by_ zr) (hx:pev σ x = .msl id off n k) (hb:σ.b id=some bs) (hle:off+n * k≤bs.length) :
  Does P Φ0 W M a w o { t:=σ.t,b:=upd σ.b id (some (Y5 bs off (List.replicate n zr).flatten)),m:=σ.m }:=by
 obtain ⟨hu,i,z,e1,e2,e3,e4,e5,e6,e7,e8⟩:=Ys (Y9 hT ht) hk
 subst e8
 have hzr:=X5p (Φ:=Φ) (μ:=μ) (len:=n) (z:=z.cells) e5 e6 (X1y _) e7 (by intro c hc;obtain ⟨v,-,rfl⟩:=List.mem_map.1 hc;exact X56 v)
 have hxr:=h.ev x
 rw [hx] at hxr
 obtain ⟨ad,cap,hxv,c1,c2,c4⟩:=hxr.msl_inv
 have hlen:((List.replicate n (z.cells.toList.map pv0)).flatten).length=n * k:=by
  rw [←hzr.1.1];simp
 subst e5
 have hrun:∀w',(match (a.eval x) with | .slice (some ad) (m+1) _=>storeCells ad ((Array.range (n * z.cells.size)).map (fun i=>z.cells[i % z.cells.size]!)).toList|_=>pure ():Sem Unit).run P w = .ok () w'→(execOp a.eval o).run P w = .ok (.value (.tuple #[])) w':=by
  intro w' hst
  rw [hxv] at hst
  simp only [execOp,hop,resolve,invoke,builtin,Sem.run_bind,Sem.run_pure,Result.andThen_ok,List.map_toArray,List.map_cons,List.map_nil,Builtin.clear_,List.getElem?_toArray,List.getElem?_cons_zero,run_underlying hu,hxv]
  cases ad with
  |none=>simp only [Sem.run_pure] at hst;cases hst;simp
  |some ad=>
   cases n with
   |zero=>simp only [Sem.run_pure] at hst;cases hst;simp
   |succ n=>
    simp only at hst
    simp only [zeroValue,typeInfo,run_program,Result.andThen_ok,e1,e2,Sem.run_bind,Sem.run_pure,Builtin.zeroCells,hst]
 rcases Nat.eq_zero_or_pos n with h0|h0
 ·subst h0
  have hbb:upd σ.b id (some (Y5 bs off (List.replicate 0 (List.map pv0 z.cells.toList)).flatten))=σ.b:=by
   funext q
   simp only [X8]
   split
   ·rename_i e;subst e
    simp [Y5,hb]
   ·rfl
  refine ⟨_, .tuple #[],w,hrun w ?_, .inl rfl,Φ,μ,ω,by rw [hd,hbb];exact h⟩
  rw [hxv]
  cases ad<;>simp
 ·obtain ⟨g,hg,rfl⟩:=c4 h0
  obtain ⟨w',q1,q2⟩:=h.store (P:=P) hb hzr (off:=off) (by rw [hlen];exact hle) hg
  refine ⟨_, .tuple #[],w',hrun w' ?_, .inl rfl,Φ,μ,ω,by rw [hd];exact q2⟩
  rw [hxv]
  obtain ⟨m,rfl⟩:∃m,n=m+1:=⟨n - 1,O_⟩
  exact q1
end
section
open Go.RowKit
variable {P:Program} {T:Tab} {σ:PS} {o:Oper} {i base:Nat} {ops:Array Oper} {ok:Nat→Nat→Bool} {rest:List (Nat×Oper)} {K:PS→Prop}
theorem X5.clrM {e k by_ id off n:Nat} {zr bs out:List PV} {t:TypeId} {x:Operand} {ti:TyI} (hT:T=Kf P) (hg:Xk ops σ o=some true) (hok:∀j id,ok j id=true) (hd:o.dst=none) (hop:o.op = .call { callee:=.builtin .clear,args := #[x],argTypes := #[t] }) (ht:T.at t=some ti) (hk:ti.kind = .slice e k by_ zr) (hx:pev σ x = .msl id off n k) (hb:σ.b id=some bs) (hle:off+n * k≤bs.length)
  (hout:Y5 bs off (List.replicate n zr).flatten=out) (kn:X5 P T ops base ok rest K (σ.setb id out)):X5 P T ops base ok ((i,o) :: rest) K σ:=by
 subst hout
 refine X5.sem (E:=⟨.tup [],[(id,Y5 bs off (List.replicate n zr).flatten)],none,[]⟩) hg hok ?_ (by rw [hd];exact kn)
 intro Φ0 W M a w hM hrel
 obtain ⟨Φ,μ,ω,hr⟩:=hrel
 have:=Xzc hT hr o hd hop ht hk hx hb hle
 rw [hd]
 rw [hd] at *
 exact this
theorem X5.slcMs {d id o' n k e by_ h l:Nat} {zr:List PV} {x:Operand} {lo hi:Option Operand} {t:TypeId} {ti:TyI} (hg:Xk ops σ o=some true) (hd:o.dst=some d) (hop:o.op = .slice t x lo hi none) (hx:pev σ x = .msl id o' n k) (ht:T.at t=some ti) (hk:ti.kind = .slice e k by_ zr) (hb:σ.freeB (base+i)=true) (hh:Yf n n (hi.map (pev σ))=some h) (hlo:Yf 0 h (lo.map (pev σ))=some l)
  (kn:X5 P T ops base ok rest K (σ.put d (.msl id (o' + l * k) (h - l) k))):X5 P T ops base ok ((i,o) :: rest) K σ:=by
 refine X2j hg hd ?_ hb kn
 have e1:∀x:Operand,pev (σ.only (ok i)) x=pev σ x:=fun x=>Xv ..
 have e2:∀x:Option Operand,x.map (pev (σ.only (ok i)))=x.map (pev σ):=fun x=>by cases x<;>simp [e1]
 simp [hop,presE,V5,pval,Xv,e2,hx,ht,hk,Xdl,hh,hlo]
end
section
open Go.RowKit
theorem Weak.undef (p:PV):Weak p .undef:=⟨fun _ _ v _=>.undef v,fun h=>by simp [PV.ownB] at h⟩
end
section
open Go.RowKit
variable {Φ0:Ent} {W:World} {M:Nat} {Φ:Imm} {μ:Nat→Option Nat} {ω:Nat→Option Who} {σ:PS} {a:Act} {w:World} {P:Program} {T:Tab}
theorem RelG.weakB (h : RelG Φ0 W M Φ μ ω σ a w) {id : Nat} {bs cs : List PV} (hb : σ.b id = some bs) (hw : X7 bs cs) : RelG Φ0 W M Φ μ ω (σ.setb id cs) a w :=
  { h with
    box := fun i ds e => by
      simp only [PS.setb, X8] at e
      split at e
      · rename_i e'; subst e'; cases e; exact (h.box _ _ hb).weak hw
      · exact h.box i ds e
    gone := fun i e1 e2 => by
      simp only [PS.setb, X8] at e1
      split at e1
      · cases e1
      · exact h.gone i e1 e2
    kmu := fun i g e1 e2 => by
      refine h.kmu i g e1 ?_
      by_cases e : i = id
      · subst e; left; rw [hb]; simp
      · simp only [PS.setb, X8, if_neg e] at e2
        exact e2 }
theorem PW.weakB {c:Code} {Q:Exit→PS→Prop} {id:Nat} {bs:List PV} (cs:List PV) (hb:σ.b id=some bs) (hw:X7 bs cs) (h:PW P M c Q (σ.setb id cs)):PW P M c Q σ:=by
 intro Φ0 W a w ⟨Φ,μ,ω,hg⟩
 exact h Φ0 W a w ⟨Φ,μ,ω,hg.weakB hb hw⟩
end
section
open Go.RowKit
theorem Xiz:∀(bs:List PV) (j:Nat),X7 bs (bs.set j .undef)
 | [],_=>X7.nil
 |b :: bs,0=>.cons (Weak.undef _) (X7.refl _)
 |b :: bs,j+1=>.cons (Weak.refl _) (Xiz bs j)
end
section
open Go.RowKit
variable {Φ0:Ent} {W:World} {M:Nat} {Φ:Imm} {μ:Nat→Option Nat} {ω:Nat→Option Who} {σ:PS} {a:Act} {w:World} {P:Program} {T:Tab}
theorem RelG.seeB (h : RelG Φ0 W M Φ μ ω σ a w) {i0 j g : Nat} {bs : List PV} {cur : Array Value} {Ty : TypeId} {p : PV} {u : Value} (hb : σ.b i0 = some bs) (hg : μ i0 = some g) (hc : w.heap[g]? = some (.cells cur Ty (0, 0))) (hu : cur[j]? = some u) (h1 : u.oneCell' = true) (hp : Rep Φ μ p u) (ho : p.ownB = false) : RelG Φ0 W M Φ μ ω (σ.setb i0 (bs.set j p)) a w :=
  { h with
    box := fun i ds e => by
      simp only [PS.setb, X8] at e
      split at e
      · rename_i e'; subst e'; cases e
        obtain ⟨g', cur', T', k1, k2, k3, k4, k5, k6, k7⟩ := h.box _ _ hb
        rw [hg] at k1; cases k1
        rw [hc] at k2; cases k2
        refine ⟨g, cur, Ty, hg, hc, k3, k4, k5, by simpa using k6, fun q c hq => ?_⟩
        by_cases e2 : j = q
        · subst e2
          have hj : j < bs.length := by have := (List.getElem?_eq_some_iff.1 hq).1; simpa using this
          rw [List.getElem?_set, if_pos rfl, if_pos hj] at hq
          cases hq
          exact ⟨u, hu, h1, hp, fun n k cs E e => by rw [e] at ho; simp [PV.ownB] at ho⟩
        · rw [List.getElem?_set, if_neg e2] at hq
          exact k7 q c hq
      · exact h.box i ds e
    gone := fun i e1 e2 => by
      simp only [PS.setb, X8] at e1
      split at e1
      · cases e1
      · exact h.gone i e1 e2
    kmu := fun i g e1 e2 => by
      refine h.kmu i g e1 ?_
      by_cases e : i = i0
      · subst e; left; rw [hb]; simp
      · simp only [PS.setb, X8, if_neg e] at e2
        exact e2 }
theorem Sub.freezeB {σ' : PS} {id i0 j n k:Nat} {bs cs:List PV} (hb:σ.b id=some cs) (hi:σ.b i0=some bs) (hj:bs[j]? = some (.msl id 0 n k)) (hl:cs.length=n * k) (hlow:∀c∈cs,Low c) (hsub:SubR (fun i=>i) (Kn σ') (σ.setb i0 (bs.set j .undef)) σ') (hi' : σ'.b i0=some (bs.set j .undef)) (hid:σ'.freeB id=true):Sub M σ (σ'.setb i0 (bs.set j (.sl n k cs none))):=by
 rintro Φ0 W a w ⟨Φ,μ,ω,hg⟩
 have h1:=hsub.rel (fun i hi=>hi.spec) (fun i j _ _ e=>e) (fun i _ _ _=>rfl) (hg.weakB hi (Xiz bs j))
 obtain ⟨g,cur,Ty,b1,b2,b3,b4,b5,b6,b7⟩:=hg.box id cs hb
 have hun:unren (fun i=>i) (Kn σ') (ω g)=none:=by
  rw [b4]
  unfold unren
  split
  ·rename_i h2;cases h2
  ·split
   ·rename_i hh
    obtain ⟨q,⟨i,hi,hq⟩,e⟩:=hh
    exfalso
    rcases hq with rfl|⟨j,rfl⟩
    ·simp only [renW,Option.some.injEq,Who.box.injEq] at e
     subst e
     rw [Kn,hid] at hi;cases hi
    ·simp [renW] at e
   ·rfl
 have h2:=h1.still b2 b3 hun b5
 obtain ⟨g0,cur0,T0,d1,d2,d3,d4,d5,d6,d7⟩:=hg.box i0 bs hi
 obtain ⟨u,r1,r2,r3,-⟩:=d7 j _ hj
 have hk:Kn σ' i0:=by
  rw [Kn]
  cases hh:σ'.freeB i0 with
  |false=>rfl
  |true=>have:=(PS.freeB_spec hh).1;rw [hi'] at this;cases this
 have e3:bs.set j (.sl n k cs none)=(bs.set j .undef).set j (.sl n k cs none):=by rw [List.set_set]
 rw [e3]
 refine ⟨_,_,_,h2.seeB (j:=j) (u:=u) hi' ((if_pos hk).trans d1) d2 r1 r2 ?_ rfl⟩
 obtain ⟨ad,cap,hvv,c1,c2,c4⟩:=r3.msl_inv
 rw [hvv]
 rcases Nat.eq_zero_or_pos n with h0|h0
 ·subst h0
  have:cs = []:=List.eq_nil_of_length_eq_zero (by simpa using hl)
  subst this
  exact .sl0 _ _ _ _ (by assumption)
 ·obtain ⟨g',hg',rfl⟩:=c4 h0
  rw [b1] at hg'; cases hg'
  refine .sl n k cs none g 0 cap (fun j=>cur.getD j undef) hl (by assumption) (by assumption) (fun j hj=>?_) (fun j c hc=>?_)
  ·unfold Kt
   rw [if_pos rfl,Nat.zero_add,Array.getD_eq_getD_getElem?]
   rw [Array.getElem?_eq_getElem O_];rfl
  ·obtain ⟨u,r1,r2,r3,-⟩:=b7 j c hc
   rw [Array.getD_eq_getD_getElem?,r1]
   refine Rep.mono (Φ:=Φ) (fun b o u e=>?_) (fun _ _ e=>e) (r3.low (hlow c (Xc hc)))
   unfold Kt
   rw [if_neg]
   ·exact e
   ·rintro rfl;rw [b5] at e;cases e
theorem PW.boxTakeF {c:Code} {Q:Exit→PS→Prop} {id:Nat} {bs cs r:List PV} (hb:σ.b id=some bs) (hc:bs=cs ++ r) (h:PW P M c Q (σ.setb id cs)):PW P M c Q σ:=by
 intro Φ0 W a w ⟨Φ,μ,ω,hg⟩
 exact h Φ0 W a w ⟨Φ,μ,ω,hg.boxTake hb hc⟩
theorem PW.freezeB {σ' : PS} {id i0 j n k:Nat} {bs cs:List PV} {c:Code} {Q:Exit→PS→Prop} (hb:σ.b id=some cs) (hi:σ.b i0=some bs) (hj:bs[j]? = some (.msl id 0 n k)) (hl:cs.length=n * k) (hlow:∀c∈cs,Low c) (hsub:SubR (fun i=>i) (Kn σ') (σ.setb i0 (bs.set j .undef)) σ') (hi' : σ'.b i0=some (bs.set j .undef)) (hid:σ'.freeB id=true) (h:PW P M c Q (σ'.setb i0 (bs.set j (.sl n k cs none)))):PW P M c Q σ:=
 h.sub (Sub.freezeB hb hi hj hl hlow hsub hi' hid)
end
section
open Go.RowKit
def Xjh:List (String×DataW Unit) := [("antiquary/hash.constants",Rows.laid_antiquary_hash_constants)]
theorem Xh1 (os:Os) (args:Array Value):laidMetH Tryz.prog Xjh ((World.doorLaid Tryz.prog 2000 os).forCall (fun _ _=>0) ⟨#[],args,[]⟩).memory:=
 laidMetH_of_parts3 (fuel:=8) (laidMet_of_run' 8 K_ K_) K_ K_
theorem Xbs (W:World) (h:laidMetH Tryz.prog Xjh W):∀x∈X3b,∀j z,x.2.2[j]? = some z→W.cell? ⟨x.1,j,none⟩=some (.int x.2.1 z):=by
 rw [MakeChecks.laidMetH_plain _ _ _ K_] at h
 intro x hx
 simp only [X3b,List.mem_cons,List.not_mem_nil,or_false] at hx
 rcases hx with rfl
 ·exact Xg5 (n:="antiquary/hash.constants") (zs:=Yy) (t:=210) (e:=186) (m:=64) K_ K_ K_ K_ K_ K_ (Lib.laidMet.reads h (.head _))
end
end Go.Proofs.YtmciloafahkolaaGreatDoor
