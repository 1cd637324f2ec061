/- Out of: AttrN, PwIt2, PwIt3, PwIt4, PwIt5, PwIt6. -/
import Derived.Test.YtoamkpgaaanafaaGreatM15
import Derived.Test.YtoamkpgaaanafaaGreatM16
namespace Go.Proofs.YtoamkpgaaanafaaGreat
set_option linter.unusedSimpArgs false
set_option linter.unusedVariables false
set_option linter.unnecessarySimpa false
section
open Go.RowKit
theorem findI_cases (ds:List PDef) (nm:ByteArray):findI ds nm = -1∨∃(k:Nat) (d:PDef),findI ds nm=k∧ds[k]? = some d:=by
 by_cases h:findI ds nm < 0
 ·left;have:=idxB_ge (ds.map fun d=>eqB d.name nm);unfold findI at *; omega
 ·right
  have h1:=idxB_lt (ds.map fun d=>eqB d.name nm) (by unfold findI at h;omega)
  rw [List.length_map] at h1
  refine ⟨(findI ds nm).toNat,ds[(findI ds nm).toNat]'(by unfold findI at *; omega),by omega,by simp⟩
theorem EnvF.box1 {a:PAttr} {d:PDef} {wv:Value} {bf:ByteArray} {g h:Nat} {w:World} (ha:AttrAt w g 0 a) (hb:w.cell? ⟨h,0,none⟩=some (.string bf)) (hs:Strs w wv d.words) (o:Obj) :
  EnvF a d wv bf g h w.heap.size (w.heap.size+1) (((w.alloc (.cells #[.string d.name, .int .i64 d.kind, .int .i64 d.lo, .int .i64 d.hi,wv] 77)).alloc (.cells #[.bool (a.kind == 1)] 4)).alloc o):=by
 refine EnvF.below ⟨ha.below (below_two _ _ _),below_cell (below_two _ _ _) hb,(DefAt.box w d wv _).below (below_alloc _ _),hs.below (below_two _ _ _),?_⟩ (below_alloc _ _)
 simp
theorem EnvF.box2 {a:PAttr} {d:PDef} {wv:Value} {bf:ByteArray} {g h:Nat} {w:World} (ha:AttrAt w g 0 a) (hb:w.cell? ⟨h,0,none⟩=some (.string bf)) (hs:Strs w wv d.words) (o:Obj) :
  EnvF a d wv bf g h (w.heap.size+1) w.heap.size (((w.alloc (.cells #[.bool (a.kind == 1)] 4)).alloc (.cells #[.string d.name, .int .i64 d.kind, .int .i64 d.lo, .int .i64 d.hi,wv] 77)).alloc o):=by
 refine EnvF.below ⟨ha.below (below_two _ _ _),below_cell (below_two _ _ _) hb,?_,hs.below (below_two _ _ _),below_cell (below_alloc _ _) (by simp)⟩ (below_alloc _ _)
 have:=DefAt.box (w.alloc (.cells #[.bool (a.kind == 1)] 4)) d wv 77
 simpa using this
theorem below_drew1 {w w' : World} (h:Below w.heap.size w w'):Below w.heap.size w w'.drew:=h.drew
theorem EnvF.drew {a:PAttr} {d:PDef} {wv:Value} {bf:ByteArray} {g h k q:Nat} {w:World} (e:EnvF a d wv bf g h k q w):EnvF a d wv bf g h k q w.drew:=e.below ((Below.refl _ _).drew)
theorem Rules.drew {w:World} {v:Value} {rs:List Rule} (h:Rules w v rs):Rules w.drew v rs:=h
theorem runF1 {a:PAttr} {d:PDef} {wv:Value} {bf:ByteArray} {g h n:Nat} {T:TypeId} {cs:Array Value} {w:World} (ha:AttrAt w g 0 a) (hb:w.cell? ⟨h,0,none⟩=some (.string bf)) (hs:Strs w wv d.words) (hl:d.words.length≤1000)
  (hn:n=w.heap.size+1+1) (hcs:cs=((rulesF a d bf g h w.heap.size (w.heap.size+1)).map ruleC).flatten.toArray) :
  Calls Tryz.prog 87 #[.slice (some ⟨n,0,none⟩) 5 5] (((w.alloc (.cells #[.string d.name, .int .i64 d.kind, .int .i64 d.lo, .int .i64 d.hi,wv] 77)).alloc (.cells #[.bool (a.kind == 1)] 4)).alloc (.cells cs T)).drew (RetI w (firstE (fitR d bf a))):=by
 refine (runF ((EnvF.box1 ha hb hs _).drew) hl _ (Rules.drew (Rules.mk (rulesF a d bf _ _ _ _) (Nat.le_of_ble_eq_true rfl) (by simp [hn]) rfl hcs))).mono ?_
 rintro e w' ⟨rfl,hb'⟩
 exact ⟨rfl,blift (below_drew1 (below_three _ _ _ _)) hb'⟩
theorem runF2 {a:PAttr} {d:PDef} {wv:Value} {bf:ByteArray} {g h n:Nat} {T:TypeId} {cs:Array Value} {w:World} (ha:AttrAt w g 0 a) (hb:w.cell? ⟨h,0,none⟩=some (.string bf)) (hs:Strs w wv d.words) (hl:d.words.length≤1000)
  (hn:n=w.heap.size+1+1) (hcs:cs=((rulesF a d bf g h (w.heap.size+1) w.heap.size).map ruleC).flatten.toArray) :
  Calls Tryz.prog 87 #[.slice (some ⟨n,0,none⟩) 5 5] (((w.alloc (.cells #[.bool (a.kind == 1)] 4)).alloc (.cells #[.string d.name, .int .i64 d.kind, .int .i64 d.lo, .int .i64 d.hi,wv] 77)).alloc (.cells cs T)).drew (RetI w (firstE (fitR d bf a))):=by
 refine (runF ((EnvF.box2 ha hb hs _).drew) hl _ (Rules.drew (Rules.mk (rulesF a d bf _ _ _ _) (Nat.le_of_ble_eq_true rfl) (by simp [hn]) rfl hcs))).mono ?_
 rintro e w' ⟨rfl,hb'⟩
 exact ⟨rfl,blift (below_drew1 (below_three _ _ _ _)) hb'⟩
set_option maxRecDepth 100000 in
set_option maxHeartbeats 1000000 in
theorem attrFits (v u:Value) (s:PSchema) (l:List PAttr) (w:World) (hv:SchemaV w v s) (hu:Attrs w u l) (hsm:SmallS s) (hl:l.length≤1000000) :
  Calls Tryz.prog 93 #[v,u] w (RetI w (fitsGo s.defs ByteArray.empty false l)):=by
 obtain ⟨dv,rfl,hd⟩:=hv
 obtain ⟨s1,s2⟩:=hsm
 have S2:Hid (∀d∈s.defs,SmallD d):=s2
 have HB:=Lib.hid (SchAt.box w s dv 24 hd)
 have hw0:Below w.heap.size w (w.alloc (.cells #[.int .i64 s.dims, .int .i64 s.metric,dv] 24)):=below_alloc _ _
 have HU:=Lib.hid (hu.below hw0)
 obtain ⟨a,cap,b,off,rfl,hcap,hm,ha,hc⟩:=HU.out.open
 clear s2 hd hu
 go_enter Tryz.func93,Tryz.ntmps93
 go_wp2
 generalize hw:w.alloc (.cells #[.int .i64 s.dims, .int .i64 s.metric,dv] 24)=w0 at *
 have hsz:w.heap.size+1=w0.heap.size:=by rw [←hw];simp
 simp only [hsz]
 have hsz' : w.heap.size < w0.heap.size:=by omega
 clear hw hsz
 have hda:=HB.out.2.2.2.open
 go_loopw [14] (fun i wr=>∃(k:Nat) (bf:ByteArray),k≤l.length∧i = .int .i64 k∧Below w0.heap.size w0 wr∧w0.heap.size < wr.heap.size∧wr.cell? ⟨w0.heap.size,0,none⟩=some (.string bf)∧wr.frozen? ⟨w0.heap.size,0,none⟩=false∧Hid (fitsGo s.defs ByteArray.empty false l=fitsGo s.defs bf false (l.drop k))) (fun i _=>l.length - (intOf i).toNat)
 case atStart=>exact ⟨0,ByteArray.empty,by omega,rfl,below_alloc _ _,by simp,by simp;rfl,by simp,rfl⟩
 case round=>
  obtain ⟨k,bf,hk,rfl,hb,hlt5,c5,f5,hh⟩:=hrel
  obtain ⟨a2,cap2,b2,off2,rfl,hcap2,hm2,ha2,hc2⟩:=hda
  have HS:=Lib.hid (HB.out.below hb)
  have c2:=HS.out.2.2.1
  by_cases hlt:k < l.length
  ·obtain ⟨y,hy⟩:=ints_get l k (by omega)
   have hy0:=hc.out k y hy
   have hbl:b < w0.heap.size:=hy0.lt
   obtain ⟨d0,d1,d2,d3⟩:=hy0.below hb
   have hbw:=hb.size
   have hlt6:w.heap.size < wr.heap.size:=by omega
   have hbl2:b < wr.heap.size:=by omega
   have H:=Lib.hid (fitsGo_drop s.defs l k bf y hy)
   obtain rfl:=ha (by omega)
   clear hc hy ha hy0
   go_wp2_with fail
   have hba:=below_alloc wr (.cells #[.string y.name, .int .i64 y.kind, .int .i64 y.n, .string y.s] 79)
   have AT:=Lib.hid (AttrAt.box wr y 79)
   have hga:wr.heap.size < (wr.alloc (.cells #[.string y.name, .int .i64 y.kind, .int .i64 y.n, .string y.s] 79)).heap.size:=by simp
   clear d0 d1 d2 d3
   generalize wr.alloc (.cells #[.string y.name, .int .i64 y.kind, .int .i64 y.n, .string y.s] 79)=wa at *
   refine (indexDef _ s.defs _ _ (fun d=>eqB d.name y.name) wa (HS.out.below hba).2.2.2 (by omega) cF1 (fun x hx wv w' hb' => fits1 _ x wv y w' (AT.out.below hb').1)).mono ?_
   rintro e w1 ⟨rfl,hb1⟩
   have hbr:=blift hba hb1
   have hb2:=blift hb hbr
   have AT1:=Lib.hid (AT.out.below hb1)
   have c5':=below_cell hbr c5
   have f5' : w1.frozen? ⟨w0.heap.size,0,none⟩=false:=by rw [hbr.frozen hlt5,f5]
   have c2':=below_cell hbr c2
   have hs1:=hb1.size
   have g1:wr.heap.size < w1.heap.size:=by omega
   clear c5 f5 c2 AT HS hba hb1 hbr hga hs1
   rcases findI_cases s.defs y.name with hf|⟨q,d,hf,hd⟩
   ·have F:=Lib.hid (fitE_none s.defs bf false y (by omega))
    unfold findI at hf
    rw [hf]
    clear hf hc2 ha2
    go_wp2
    go_ret
    exact RetI.mk (by rw [hh.out,H.out,F.out];rfl) (blift hw0 hb2)
   ·have F:=Lib.hid (fitE_some s.defs bf y q d hf hd)
    unfold findI at hf
    rw [hf]
    have hq:q < s.defs.length:=(List.getElem?_eq_some_iff.1 hd).1
    obtain ⟨wv,hdd,hds⟩:=hc2.out q d hd
    obtain ⟨e0,e1,e2,e3,e4⟩:=hdd.below hb2
    have DS:=Lib.hid (hds.below hb2)
    have hw:=(S2.out d (List.mem_of_getElem? hd)).2.1
    have hb2l:b2 < w1.heap.size:=World.block_lt_of_cell? _ _ e0
    obtain rfl:=ha2 (by omega)
    obtain ⟨a0,a1,a2',a3⟩:=AT1.out
    clear hf hd hc2 ha2 hdd hds
    obtain ⟨a5,cap5,b5,off5,rfl,-,-,-,-⟩:=DS.out.open
    have g2:w.heap.size < w1.heap.size:=by omega
    have g3:w0.heap.size < w1.heap.size:=by omega
    have hq2:decide ((q:Int) < 0)=false:=by simp only [decide_eq_false_iff_not];omega
    go_wp2
    go_region
    all_goals (try go_wp2_with fail)
    all_goals
     first
     |refine (runF1 AT1.out c5' DS.out hw rfl rfl).mono ?_
     |refine (runF2 AT1.out c5' DS.out hw rfl rfl).mono ?_
     rintro e w2 ⟨rfl,hb4⟩
     have hs4:=hb4.size
     have c6:=below_cell hb4 c5'
     have f6:w2.frozen? ⟨w0.heap.size,0,none⟩=false:=by rw [hb4.frozen g3,f5']
     have a6:=below_cell hb4 a0
     have hb5:=blift hb2 hb4
     clear hb4 c5' f5' a0 a1 a2' a3 e0 e1 e2 e3 e4 c2'
     by_cases hz:firstE (fitR d bf y)=0
     ·rw [hz] at F ⊢
      go_wp2
      go_roundw
      case rel=>
       refine ⟨k+1,y.name,by omega,by go_num,hb5.setCell (Nat.le_refl _) _,?_,?_,?_,by rw [Hid,hh.out,H.out,F.out];rfl⟩
       ·simp only [World.setCell,Array.size_modify];omega
       ·exact World.cell?_setCell_same _ _ _ c6
       ·rw [World.frozen?_setCell];exact f6
      case measure=>simp [intOf];omega
     ·have hz' : (firstE (fitR d bf y) != 0)=true:=by simp [hz]
      have HZ:=Lib.hid hz
      generalize firstE (fitR d bf y)=x at *
      clear hz
      go_wp2
      go_ret
      exact RetI.mk (by rw [hh.out,H.out,F.out,if_pos HZ.out]) (blift hw0 hb5)
  ·clear hc ha hc2 ha2
   go_wp2
   go_ret
   exact RetI.mk (by rw [hh.out,fitsGo_end _ _ _ _ _ (by omega)]) (blift hw0 hb)
abbrev Come:=Option (List (List PV))
noncomputable def offI (Φ:Imm) (ω:Nat→Option Who):Imm:=freshI (fun _ _=>none) Φ ω
theorem offI_some {Φ:Imm} {ω:Nat→Option Who} {b o:Nat} {u:Value} : offI Φ ω b o=some u↔(∀p,ω b≠some p)∧Φ b o=some u:=by
 unfold offI
 constructor
 ·intro h
  by_cases hh:∃p,ω b=some p
  ·rw [freshI_own hh] at h;cases h
  ·have:∀p,ω b≠some p:=fun p e=>hh ⟨p,e⟩
   rw [freshI_eq this] at h
   exact ⟨this,h⟩
 ·rintro ⟨h1,h2⟩
  rw [freshI_eq h1];exact h2
structure ItEnv where
 J:Come→(Nat→Prop)→Imm→World→Prop
 step:∀{κ:Come} {I I' : Nat→Prop} {K K' : Imm} {w w' : World},J κ I K w→Kept (fun b=>b < w.heap.size∧¬I b) w w'→(∀g,I' g→I g∨w.heap.size≤g)→(∀b o u,K b o=some u→I b→K' b o=some u)→(∀b o u,K' b o=some u→w'.cell? ⟨b,o,none⟩=some u)→J κ I' K' w'
def YOK (P:Program) (E:ItEnv) (l:Nat) (A:List (List PV)→Prop) (Φe:Imm) (B0:Nat):Prop:=
 ∀(pre:List (List PV)) (x:List PV) (I:Nat→Prop) (K:Imm) (w1:World) (vs:List Value),A (pre ++ [x])→E.J (some pre) I K w1→(∀g,I g→B0≤g∧g < w1.heap.size)→(∀b o u,K b o=some u→w1.cell? ⟨b,o,none⟩=some u)→(∀b o,b < B0→K b o=Φe b o)→(∀b o u,B0≤b→K b o=some u→I b) →
  GlobOK K→RepL K mu0 x vs→YieldAt (FW none) 0 P l vs.toArray w1 fun e w2=>∃b:Bool,e = .returned (.bool b)∧E.J (if b then some (pre ++ [x]) else none) I K w2∧Kept (fun g=>I g∨(g < B0∧¬Mix Φe g)) w1 w2∧(∀b o u,K b o=some u→w2.cell? ⟨b,o,none⟩=some u)
def ItSpec (P:Program) (f:FuncId) (caps:List PV) (A S:List (List PV)→Prop):Prop:=
 callB P f=true∧∀(E:ItEnv) (l:Nat) (Φe:Imm) (w:World) (vs:List Value),(∀b o u,Φe b o=some u→w.cell? ⟨b,o,none⟩=some u)→GlobOK Φe→RepL Φe mu0 caps vs→YOK P E l A Φe w.heap.size→E.J (some []) (fun _=>False) Φe w →
  Calls P f (#[.func (.yield l) #[] #[]] ++ vs.toArray) w fun e w' => ∃v κ K,e = .returned v∧(∀xs,κ=some xs→S xs)∧E.J κ (fun _=>False) K w'
def RelJ (E:ItEnv) (Φ0:Ent) (W:World) (M:Nat) (κ:Come) (σ:PS) (a:Act) (w:World):Prop:=
 ∃Φ1 W1 Φ μ ω I,Later Φ0 W Φ1 W1∧RelG Φ1 W1 M Φ μ ω σ a w∧E.J κ I (offI Φ ω) w∧(∀g,I g→W.heap.size≤g∧g < w.heap.size)∧(∀g p,ω g=some p→I g)∧(∀b o u,W.heap.size≤b→Φ b o=some u→I b)∧(∀b o,b < W.heap.size→Φ b o=Φ0.imm b o)∧(∀m∈Φ1.marks,I m)
end
section
open Go.RowKit
variable {E:ItEnv} {Φ0:Ent} {W:World} {M:Nat} {κ:Come} {σ:PS} {a:Act} {w:World} {P:Program} {T:Tab}
theorem RelJ.go (h:RelJ E Φ0 W M κ σ a w):∃Φf:Ent,Φf.round=Φ0.round∧Rel Φf w M σ a w∧∀Φ2 W2 σ' a' w',Later Φf w Φ2 W2→Rel Φ2 W2 M σ' a' w'→RelJ E Φ0 W M κ σ' a' w':=by
 obtain ⟨Φ1,W1,Φ,μ,ω,I,hl,hg,hJ,h1,h2,h3,h4,h5⟩:=h
 refine ⟨hg.freshE Φ1.mu,hl.round,⟨Φ,μ,ω,hg.fresh0 hg.gmu hg.kmu⟩,?_⟩
 rintro Φ2 W2 σ' a' w' hl2 ⟨Φ',μ',ω',k⟩
 have hs:=hg.since hl2 k
 obtain ⟨Φ3,W3,hl3,em,k3⟩:=hg.unfresh hl2 k
 have hWw:W.heap.size≤w.heap.size:=Nat.le_trans hl.kept.size hg.below.size
 have hww:w.heap.size≤w'.heap.size:=hs.kept.size
 have hωn:∀b,b < W.heap.size→∀p,ω b≠some p:=fun b hb p e=>by have:=(h1 b (h2 b p e)).1;omega
 refine ⟨Φ3,W3,Φ',μ',ω',fun g=>I g∨(w.heap.size≤g∧g < w'.heap.size),hl.trans hl3,k3,?_,fun g hg' => ?_,fun g p e=>?_,fun b o u hb e=>?_,fun b o hb=>?_,fun m hm=>?_⟩
 ·refine E.step hJ (hs.kept.mono fun b hb=>⟨hb.1,fun p e=>hb.2 (h2 b p e)⟩) (fun g hg' => hg'.imp id (fun h=>h.1)) (fun b o u e hI=>?_) (fun b o u e=>k.imm b o u (offI_some.1 e).2)
  obtain ⟨e1,e2⟩:=offI_some.1 e
  have hb:=(h1 b hI).2
  refine offI_some.2 ⟨fun p ep=>?_,by rw [hs.imm b o hb e1];exact e2⟩
  rcases hs.own b p ep with ⟨q,hq⟩|hq
  ·exact e1 q hq
  ·omega
 ·rcases hg' with h' | h'
  ·exact ⟨(h1 g h').1,Nat.lt_of_lt_of_le (h1 g h').2 hww⟩
  ·exact ⟨Nat.le_trans hWw h'.1,h'.2⟩
 ·rcases hs.own g p e with ⟨q,hq⟩|hq
  ·exact .inl (h2 g q hq)
  ·exact .inr ⟨hq,k.lt g p e⟩
 ·by_cases hlt:b < w.heap.size
  ·left
   by_cases hω:∃p,ω b=some p
   ·obtain ⟨p,hp⟩:=hω;exact h2 b p hp
   ·rw [hs.imm b o hlt (fun p e=>hω ⟨p,e⟩)] at e
    exact h3 b o u hb e
  ·exact .inr ⟨Nat.le_of_not_lt hlt,RelG.fresh k e⟩
 ·rw [hs.imm b o (Nat.lt_of_lt_of_le hb hWw) (hωn b hb)]
  exact h4 b o hb
 ·rw [em] at hm
  obtain ⟨ms,e1,-,k1⟩:=hl2.marks
  rw [e1] at hm
  rcases List.mem_append.1 hm with hm|hm
  ·exact .inr ⟨(k1 m hm).1,Nat.lt_of_lt_of_le (k1 m hm).2.1.1 k.below.size⟩
  ·exact .inl (h5 m hm)
theorem RelJ.sub {σ' : PS} (h:RelJ E Φ0 W M κ σ a w) (hs:Sub M σ σ'):RelJ E Φ0 W M κ σ' a w:=by
 obtain ⟨Φf,-,hr,k⟩:=h.go
 exact k Φf w σ' a w (Later.refl _ _) (hs _ _ _ _ hr)
theorem RelJ.ev (h:RelJ E Φ0 W M κ σ a w) {c:Operand} {v:Value} (hc:pev σ c = .val v):a.eval c=v:=by
 obtain ⟨Φ1,W1,Φ,μ,ω,I,hl,hg,-⟩:=h
 have:=hg.ev c
 rw [hc] at this
 exact this.val_inv.1
def PWJ (E:ItEnv) (Φ0:Ent) (W:World) (P:Program) (M:Nat) (c:Code) (Q:Exit→PS→Come→Prop) (σ:PS) (κ:Come):Prop:=
 ∀a w,RelJ E Φ0 W M κ σ a w→c.wpIn (FW Φ0.round) 0 P (fun e a' w' => ∃σ' κ',Q e σ' κ'∧RelJ E Φ0 W M κ' σ' a' w') a w
end
section
open Go.RowKit
variable {E:ItEnv} {Φ0:Ent} {W:World} {M:Nat} {κ:Come} {σ:PS} {a:Act} {w:World} {P:Program} {T:Tab}
variable {Q:Exit→PS→Come→Prop}
theorem PWJ.of_pw {c:Code} (h:PW P M c (fun e σ' => Q e σ' κ) σ):PWJ E Φ0 W P M c Q σ κ:=by
 intro a w hr
 obtain ⟨Φf,e1,hr',k⟩:=hr.go
 have:=h Φf w a w hr'
 rw [e1] at this
 exact wpIn_mono this fun e a' w' ⟨σ',Φ2,W2,hq,hl,hr2⟩=>⟨σ',κ,hq,k Φ2 W2 σ' a' w' hl hr2⟩
theorem PWJ.sub {c:Code} {σ' : PS} (h:PWJ E Φ0 W P M c Q σ' κ) (hs:Sub M σ σ'):PWJ E Φ0 W P M c Q σ κ:=fun a w hr=>h a w (hr.sub hs)
def ThenJ (E:ItEnv) (Φ0:Ent) (W:World) (P:Program) (M:Nat) (y:Code) (Q:Exit→PS→Come→Prop):Exit→PS→Come→Prop
 | .normal,σ,κ=>PWJ E Φ0 W P M y Q σ κ
 |e,σ,κ=>Q e σ κ
theorem PWJ.seq {x y:Code} (h:PWJ E Φ0 W P M x (ThenJ E Φ0 W P M y Q) σ κ):PWJ E Φ0 W P M (.seq x y) Q σ κ:=by
 intro a w hr
 refine wpIn_seq (wpIn_mono (h a w hr) ?_)
 rintro e a' w' ⟨σ',κ',hq,hr'⟩
 cases e with
 |normal=>exact hq a' w' hr'
 |_=>exact ⟨σ',κ',hq,hr'⟩
def BlockJ (id:Nat) (Q:Exit→PS→Come→Prop):Exit→PS→Come→Prop
 | .exit i,σ,κ=>if i=id then Q .normal σ κ else Q (.exit i) σ κ
 |e,σ,κ=>Q e σ κ
theorem PWJ.block {id:Nat} {c:Code} (h:PWJ E Φ0 W P M c (BlockJ id Q) σ κ):PWJ E Φ0 W P M (.block id c) Q σ κ:=by
 intro a w hr
 refine wpIn_block (wpIn_mono (h a w hr) ?_)
 rintro e a' w' ⟨σ',κ',h1,h2⟩
 cases e with
 |exit i=>
  simp only [BlockJ] at h1
  simp only [Exit.inBlock]
  split at h1
  ·rename_i e;simp only [e,if_true];exact ⟨σ',κ',h1,h2⟩
  ·rename_i e;simp only [e,if_false];exact ⟨σ',κ',h1,h2⟩
 |_=>exact ⟨σ',κ',h1,h2⟩
theorem PWJ.cond {c:Operand} {x y:Code} {b:Bool} (hc:pev σ c = .val (.bool b)) (h:PWJ E Φ0 W P M (if b then x else y) Q σ κ):PWJ E Φ0 W P M (.cond c x y) Q σ κ:=
 fun a w hr=>wpIn_cond (hr.ev hc) (h a w hr)
theorem PWJ.skip (h:Q .normal σ κ):PWJ E Φ0 W P M .skip Q σ κ:=PWJ.of_pw (PW.skip h)
theorem PWJ.ret (h:Q .ret σ κ):PWJ E Φ0 W P M .ret Q σ κ:=PWJ.of_pw (PW.ret h)
theorem PWJ.exit {i:Nat} (h:Q (.exit i) σ κ):PWJ E Φ0 W P M (.exit i) Q σ κ:=PWJ.of_pw (PW.exit h)
def LoopJ {α:Type} (M:Nat) (st:α→PS) (kf:α→Come) (I:α→Prop) (m:α→Nat) (x:α) (Q:Exit→PS→Come→Prop):Exit→PS→Come→Prop
 | .normal,σ,κ=>∃y,I y∧m y < m x∧Sub M σ (st y)∧κ=kf y
 |e,σ,κ=>Q e σ κ
theorem PWJ.loop {α:Type} {c:Code} (st:α→PS) (kf:α→Come) (I:α→Prop) (m:α→Nat) (x0:α) (hi:I x0) (h0:Sub M σ (st x0)) (hk:κ=kf x0) (round:∀x,I x→PWJ E Φ0 W P M c (LoopJ M st kf I m x Q) (st x) (kf x)):PWJ E Φ0 W P M (.loop c) Q σ κ:=by
 intro a w hr b k cs hro hb hroom
 have key:∀n x a w,m x=n→I x→RelJ E Φ0 W M (kf x) (st x) a w→∃e a' w',(∃σ' κ',Q e σ' κ'∧RelJ E Φ0 W M κ' σ' a' w')∧ArrivesIn (Machine.fenced P (FW Φ0.round)) P (lone (b.atR a (.code c :: .inLoop c :: k)) cs w) b k cs e a' w':=by
  intro n
  induction n using Nat.strongRecOn with
  |_ n ih=>
   intro x a w hn hi' hI
   obtain ⟨e,a₁,w₁,⟨σ₁,κ₁,hq,hrel⟩,harr⟩:=round x hi' a w hI b (.inLoop c :: k) cs hro hb hroom
   cases e with
   |normal=>
    obtain ⟨y,hy,hlt,hsub,rfl⟩:=hq
    obtain ⟨e₂,a₂,w₂,hq₂,harr₂⟩:=ih (m y) (hn ▸ hlt) y a₁ w₁ rfl hy (hrel.sub hsub)
    exact ⟨e₂,a₂,w₂,hq₂, .of_steps (StepsIn.trans harr (.one (fenced_calm hb hroom rfl) stepR_inLoop)) harr₂⟩
   |exit id=>exact ⟨_,a₁,w₁,⟨σ₁,κ₁,hq,hrel⟩, .pass (x:=.inLoop c) rfl (fun _ _=>.inl (by simp)) harr⟩
   |goto l=>exact ⟨_,a₁,w₁,⟨σ₁,κ₁,hq,hrel⟩, .pass (x:=.inLoop c) rfl (fun _ _=>.inl (by simp)) harr⟩
   |ret=>exact ⟨_,a₁,w₁,⟨σ₁,κ₁,hq,hrel⟩, .pass (x:=.inLoop c) rfl (fun _ _=>.inl (by simp)) harr⟩
   |panic ch=>exact ⟨_,a₁,w₁,⟨σ₁,κ₁,hq,hrel⟩, .pass (x:=.inLoop c) rfl (fun _ _=>.inl (by simp)) harr⟩
   |outgrown=>exact ⟨_,a₁,w₁,⟨σ₁,κ₁,hq,hrel⟩, .pass (x:=.inLoop c) rfl (fun _ _=>.inl (by simp)) harr⟩
 subst hk
 obtain ⟨e,a',w',hq,harr⟩:=key _ x0 a w rfl hi (hr.sub h0)
 exact ⟨e,a',w',hq, .of_steps (.one (fenced_calm hb hroom rfl) stepR_loop) harr⟩
structure YAt (l:Nat) (A:List (List PV)→Prop) (M:Nat) (pre:List (List PV)) (x:List PV) (o:Oper) (d:Nat) (σ:PS):Prop where
 dst:o.dst=some d
 lt:d < M
 op:∃c y,o.op = .call c∧c.callee = .value y∧pev σ y = .val (.func (.yield l) #[] #[])∧c.args.toList.map (pev σ)=x
 guard:o.guard=none
 low:∀p∈x,Low p
 here:A (pre ++ [x])
 box:∀id bs,σ.b id=some bs→∀c∈bs,c.ownB=false
 map:∀id es c,σ.m id=some (.map es c)→∀e∈es,e.2.2.ownB=false
def ybehind (σ:PS) (d:Nat) (b:Bool):PS:={ t:=upd (fun t=>(σ.t t).bare) d (.val (.bool b)),b:=σ.b,m:=σ.m }
theorem run_ycall {l:Nat} {o:Oper} {c:Call} {y:Operand} (hop:o.op = .call c) (hcal:c.callee = .value y) (hv:a.eval y = .func (.yield l) #[] #[]):(execOp a.eval o).run P w=(Instr.yield l (c.args.toList.map a.eval).toArray).run P w:=by
 have e:(#[]:Array Value) ++ c.args.map a.eval=(c.args.toList.map a.eval).toArray:=by
  apply Array.ext'
  simp
 simp only [execOp,hop,resolve,hcal,hv,Deferred.ofValue,Sem.run_bind,Sem.run_pure,Result.andThen_ok,invoke]
 rw [e]
open Classical in
theorem yield_sound {l d:Nat} {A:List (List PV)→Prop} {pre:List (List PV)} {x:List PV} {o:Oper} (hgiv:∀b,Old Φ0 W b→¬Mix Φ0.imm b) (hy:YOK P E l A Φ0.imm W.heap.size) (hr:Φ0.round=none) (h:RelJ E Φ0 W M (some pre) σ a w) (ha:YAt l A M pre x o d σ)
  {K:Act→World→Prop} {Q' : Exit→Act→World→Prop} (hK:∀(b:Bool) a' w',RelJ E Φ0 W M (if b then some (pre ++ [x]) else none) (ybehind σ d b) a' w'→K a' w'):o.wpIn (FW Φ0.round) 0 P a w K Q':=by
 obtain ⟨Φ1,W1,Φ,μ,ω,I,hl,hg0,hJ,h1,h2,h3,h4,h5⟩:=h
 obtain ⟨c,y,hop,hcal,hyv,hargs⟩:=ha.op
 -- the marks of one's own are given away
 let σ1:PS:={ σ with t:=fun t=>(σ.t t).bare }
 have hg1:RelG Φ1 W1 M Φ μ ω σ1 a w:=hg0.forget _ (fun t=>.inr (.inr (.inl rfl)))
 let ω1:Nat→Option Who:=fun g=>if ∃i,ω g=some (.box i)∧μ i=some g∧(σ.b i≠none∨σ.m i≠none) then ω g else none
 have hω1:∀i g,ω g=some (.box i)→μ i=some g→(σ.b i≠none∨σ.m i≠none)→ω1 g=some (.box i):=fun i g e1 e2 e3=>by
  show (if _ then _ else _)=_
  rw [if_pos ⟨i,e1,e2,e3⟩];exact e1
 have hω2:∀g p,ω1 g=some p→ω g=some p∧∃i,ω g=some (.box i)∧μ i=some g∧(σ.b i≠none∨σ.m i≠none):=by
  intro g p e
  have e' : (if ∃i,ω g=some (.box i)∧μ i=some g∧(σ.b i≠none∨σ.m i≠none) then ω g else none)=some p:=e
  split at e'
  ·rename_i hh;exact ⟨e',hh⟩
  ·cases e'
 have hno1:∀t n k cs E',σ1.t t≠.sl n k cs (some E'):=by
  intro t n k cs E' e
  have h':=PV.bare_own (σ.t t)
  have e' : (σ.t t).bare = .sl n k cs (some E'):=e
  rw [e'] at h'
  simp [PV.ownB] at h'
 have hg:RelG Φ1 W1 M Φ μ ω1 σ1 a w:=by
  refine ⟨hg1.below,hg1.defers,hg1.size,hg1.imm,hg1.old,hg1.tmps,fun t n k cs E' e=>absurd e (hno1 t n k cs E'),fun id bs e=>?_,hg1.gone,fun g p e=>hg1.lt g p (hω2 g p e).1,hg1.gmu,hg1.kmu,hg1.ext,fun id X e=>?_,fun g p e=>hg1.mine g p (hω2 g p e).1⟩
  ·obtain ⟨g,cur,Ty,k1,k2,k3,k4,k5,k6,k7⟩:=hg1.box id bs e
   refine ⟨g,cur,Ty,k1,k2,k3,hω1 id g k4 k1 (.inl (by have e' : σ.b id=some bs:=e;rw [e'];simp)),k5,k6,fun j c' hc=>?_⟩
   obtain ⟨u,r1,r2,r3,-⟩:=k7 j c' hc
   refine ⟨u,r1,r2,r3,fun n k cs E' e' => ?_⟩
   have:=ha.box id bs e c' (mem_of_get hc)
   rw [e'] at this
   simp [PV.ownB] at this
  ·obtain ⟨g,k1,k2,k3,k4,k5⟩:=hg1.map id X e
   refine ⟨g,k1,k2,hω1 id g k3 k1 (.inr (by have e' : σ.m id=some X:=e;rw [e'];simp)),k4,?_⟩
   cases X with
   |map es clock=>
    obtain ⟨e0,ents,e1,e2,e3⟩:=k5
    refine ⟨e0,ents,e1,e2,fun j s k c' hj=>?_⟩
    obtain ⟨en,f1,f2,f3,f4,-⟩:=e3 j s k c' hj
    refine ⟨en,f1,f2,f3,f4,fun n kk cs E' ec=>?_⟩
    have:=ha.map id es clock e _ (mem_of_get hj)
    simp only [ec] at this
    simp [PV.ownB] at this
   |iter=>exact k5
 have hoff:∀g p,ω1 g=some p→∀j,Φ g j=none:=by
  intro g p e j
  obtain ⟨-,i,e1,e2,e3⟩:=hω2 g p e
  rcases e3 with e3|e3
  ·obtain ⟨bs,hbs⟩:=Option.ne_none_iff_exists'.1 e3
   obtain ⟨g',cur,Ty,k1,k2,k3,k4,k5,-⟩:=hg1.box i bs hbs
   rw [e2] at k1;cases k1
   exact k5 j
  ·obtain ⟨X,hX⟩:=Option.ne_none_iff_exists'.1 e3
   obtain ⟨g',k1,k2,k3,k4,-⟩:=hg1.map i X hX
   rw [e2] at k1;cases k1
   exact k4 j
 have hoffI:offI Φ ω1=Φ:=by
  funext b o'
  by_cases hh:∃p,ω1 b=some p
  ·obtain ⟨p,hp⟩:=hh
   rw [hoff b p hp o']
   exact freshI_own ⟨p,hp⟩
  ·exact freshI_eq fun p e=>hh ⟨p,e⟩
 have hJ1:E.J (some pre) I Φ w:=E.step hJ (Kept.refl _ _) (fun g hg' => .inl hg') (fun b o' u e _=>(offI_some.1 e).2) hg.imm
 have hrep:RepL Φ mu0 x (c.args.toList.map a.eval):=by
  refine ⟨by rw [←hargs];simp,fun j p u hp hu=>?_⟩
  have hl':=ha.low p (mem_of_get hp)
  rw [←hargs,List.getElem?_map] at hp
  rw [List.getElem?_map] at hu
  cases hj:c.args.toList[j]? with
  |none=>rw [hj] at hp;cases hp
  |some z=>
   rw [hj] at hp hu
   cases hp;cases hu
   exact (hg0.ev z).low hl'
 have hglob:GlobOK Φ:=hg.glob
 obtain ⟨fn,tmps,assign,body,hrun,hround⟩:=hy pre x I Φ w _ ha.here hJ1 h1 hg.imm h4 h3 hglob hrep
 have hvy:a.eval y = .func (.yield l) #[] #[]:=by
  have:=hg0.ev y
  rw [hyv] at this
  exact this.val_inv.1
 unfold Oper.wpIn
 refine ⟨fun _ _=>trivial,?_⟩
 rw [Oper.semAt_eq _ _ _ (fun c' e=>by rw [hop] at e;cases e),run_ycall hop hcal hvy,hrun]
 refine ⟨(fun e=>by cases e),?_⟩
 rw [hr]
 refine hround.mono ?_
 rintro e w2 ⟨b,rfl,hJ2,hk2,him2⟩
 simp only
 have hWw:W.heap.size≤w.heap.size:=Nat.le_trans hl.kept.size hg.below.size
 have hg2:RelG Φ1 W1 M Φ μ ω1 σ1 a w2:=by
  refine hg.grow (hg.below.trans (hk2.mono fun g hg' => ?_)) him2 (fun _ _ _=>rfl) (fun _ _ _ e=>e) (fun g p e=>⟨hk2.block g (.inl (h2 g p (hω2 g p e).1)),fun _=>rfl⟩) hk2.size
  rcases hl.only g hg' with h' | h'
  ·exact .inr ⟨h'.1,hgiv g h'⟩
  ·exact .inl (h5 g h')
 have hg3:=hg2.put (d:=d) ha.lt (p:=.val (.bool b)) (v:=.bool b) (.val _ rfl) rfl
 rw [ha.dst]
 refine hK b _ _ ⟨Φ1,W1,Φ,μ,ω1,I,hl,hg3,by rw [hoffI];exact hJ2,fun g hg' => ⟨(h1 g hg').1,Nat.lt_of_lt_of_le (h1 g hg').2 hk2.size⟩,fun g p e=>h2 g p (hω2 g p e).1,h3,h4,h5⟩
end
section
open Go.RowKit
variable {M:Nat} {P:Program} {T:Tab} {ops:List Oper} {base:Nat}
theorem any_soundR {R:PS→Act→World→Prop} (hR:∀σ a w,R σ a w→∃Φ0 W,Rel Φ0 W M σ a w∧∀σ' a' w',Rel Φ0 W M σ' a' w'→R σ' a' w') (hT:T=tabOf P) (hbase:base+ops.toArray.size≤1000000) (hall:∀(j:Nat) o,ops.toArray[j]? = some o→dstB M o=true) (hdraw:drawB ops=true) {Q:PS→Prop} {Q' : Exit→Act→World→Prop} (hQ:∀σ a w,Q σ→R σ a w→Q' .normal a w) {r:Option Nat} :
  ∀(fuel:Nat) (listed:Array Bool) (σ:PS) (a:Act) (w:World),unlisted listed≤fuel→listed.size=ops.length→(∀(i:Nat) o,ops[i]? = some o→listed.getD i false=true→∀j,depO o j=true→listed.getD j false=true) →
   PWops P T ops.toArray base (okR ops base) ((indexed 0 ops).filter fun x => !listed.getD x.1 false) Q σ→R σ a w→wpAnyIn (FW r) 0 P .any ops.toArray Q' fuel listed a w:=by
 obtain ⟨hE,hI⟩:=draw_parts hdraw
 have hsz:∀listed:Array Bool,listed.size=ops.length→listed.size=ops.toArray.size:=fun l h=>by simpa using h
 have fin:∀(listed:Array Bool) (σ:PS) (a:Act) (w:World),listed.size=ops.length→(∀i,i < ops.length→listed.getD i false=true) →
   PWops P T ops.toArray base (okR ops base) ((indexed 0 ops).filter fun x => !listed.getD x.1 false) Q σ→R σ a w→Q' .normal a w:=by
  intro listed σ a w hs hl h hr
  have:((indexed 0 ops).filter fun x => !listed.getD x.1 false) = []:=by
   rw [List.filter_eq_nil_iff]
   intro x hx
   obtain ⟨-,h2⟩:=indexed_mem 0 ops x hx
   have:x.1 < ops.length:=by have:=(List.getElem?_eq_some_iff.1 h2).1;omega
   simp [hl x.1 this]
  rw [this] at h
  exact hQ σ a w h hr
 have alls:∀listed:Array Bool,listed.size=ops.length→Region.ready .any ops.toArray listed = []→∀i,i < ops.length→listed.getD i false=true:=by
  intro listed hs hr i
  induction i using Nat.strongRecOn with
  |_ i ih=>
   intro hi
   have ho:ops.toArray[i]? = some ops[i]:=by simp [hi]
   cases hl:listed.getD i false with
   |true=>rfl
   |false=>
    have:i∈Region.ready .any ops.toArray listed:=(mem_ready (hsz listed hs)).2 ⟨ops[i],ho,hl,fun j hj=>by
     obtain ⟨e,he,hb,rfl⟩:=depO_iff.1 hj
     have:=hE i ops[i] (by simp [hi]) e he hb
     exact ih e.on this (by omega)⟩
    rw [hr] at this;cases this
 intro fuel
 induction fuel with
 |zero=>
  intro listed σ a w hu hs hcl h hr
  have hl:=unlisted_zero (Nat.le_zero.1 hu)
  rw [hs] at hl
  refine ⟨?_,fin listed σ a w hs hl h hr⟩
  apply List.eq_nil_iff_forall_not_mem.2
  intro i hi
  obtain ⟨o,ho,h1,_⟩:=(mem_ready (hsz listed hs)).1 hi
  rw [hl i (by have:=(Array.getElem?_eq_some_iff.1 ho).1;simpa using this)] at h1
  cases h1
 |succ fuel ih=>
  intro listed σ a w hu hs hcl h hr
  refine ⟨fun hrd=>fin listed σ a w hs (alls listed hs hrd) h hr,fun i hi=>?_⟩
  obtain ⟨o,ho,h1,h2⟩:=(mem_ready (hsz listed hs)).1 hi
  have ho' : ops[i]? = some o:=by simpa using ho
  have hil:i < ops.length:=(List.getElem?_eq_some_iff.1 ho').1
  have hmem:(i,o)∈(indexed 0 ops).filter fun x => !listed.getD x.1 false:=by
   rw [List.mem_filter]
   refine ⟨?_,by simp [h1]⟩
   have:∀(l:List Oper) (k i:Nat) o,l[i]? = some o→(k+i,o)∈indexed k l:=by
    intro l
    induction l with
    |nil=>intro k i o h;simp at h
    |cons p l ih=>
     intro k i o h
     cases i with
     |zero=>simp at h;subst h;simp [indexed]
     |succ i=>
      simp at h
      have:=ih (k+1) i o h
      simp only [indexed,List.mem_cons]
      right
      rw [show k+(i+1)=k+1+i by omega];exact this
   have:=this ops 0 i o ho'
   rwa [Nat.zero_add] at this
  obtain ⟨pre,post,hL⟩:=List.append_of_mem hmem
  have hsort:((indexed 0 ops).filter fun x => !listed.getD x.1 false).Pairwise (fun a b=>a.1 < b.1):=(indexed_sorted 0 ops).filter _
  rw [hL] at h hsort
  rw [List.pairwise_append] at hsort
  obtain ⟨-,hs2,hs3⟩:=hsort
  rw [List.pairwise_cons] at hs2
  have hpre:∀y∈pre,y.1 < i:=fun y hy=>hs3 y hy (i,o) (by simp)
  have hpost:∀y∈post,i < y.1:=fun y hy=>hs2.1 y hy
  have hprem:∀y∈pre,ops[y.1]? = some y.2∧listed.getD y.1 false=false:=by
   intro y hy
   have:y∈(indexed 0 ops).filter fun x => !listed.getD x.1 false:=by rw [hL];simp [hy]
   rw [List.mem_filter] at this
   obtain ⟨-,q⟩:=indexed_mem 0 ops y this.1
   exact ⟨by simpa using q,by simpa using this.2⟩
  have hb:=PWops.bubble (P:=P) (T:=T) (base:=base) (ok:=okR ops base) (cl:=clos ops) (ix:=i) (x:=o) (post:=post) (Q:=Q) pre σ (by
   intro y hy
   obtain ⟨q1,q2⟩:=hprem y hy
   have hlt:=hpre y hy
   have hnc:y.1∉(clos ops).getD i []:=fun hc=>by
    rw [clos_listed hE hcl i o ho' h2 y.1 hc] at q2;cases q2
   have hyl:y.1 < ops.length:=(List.getElem?_eq_some_iff.1 q1).1
   refine ⟨⟨by simpa using (hI i y.1 o y.2 ho' q1 hlt).resolve_left hnc,fun hs j hj1 hj2=>sep_ok (ops:=ops) q1 ho' (by simpa using hs) j hj1 hj2⟩,by omega,?_,?_⟩
   ·rw [okR,Bool.and_eq_false_iff];left
    simp only [okD,Bool.or_eq_false_iff,decide_eq_false_iff_not]
    refine ⟨⟨by omega,by omega⟩,?_⟩
    rw [Nat.add_sub_cancel_left]
    simpa using hnc
   ·rw [okR,Bool.and_eq_false_iff];left
    simp only [okD,Bool.or_eq_false_iff,decide_eq_false_iff_not]
    refine ⟨⟨by omega,by omega⟩,?_⟩
    rw [Nat.add_sub_cancel_left]
    have:i∉(clos ops).getD y.1 []:=fun hc=>by have:=clos_lt hE y.1 y.2 q1 i hc;omega
    simpa using this) h
  have hset:listed.getD i false=false:=h1
  have hlt:i < listed.size:=by rw [hs];exact hil
  have hrem:pre ++ post=(indexed 0 ops).filter fun x => !(listed.setIfInBounds i true).getD x.1 false:=by
   have e1:((indexed 0 ops).filter fun x => !(listed.setIfInBounds i true).getD x.1 false)=((indexed 0 ops).filter fun x => !listed.getD x.1 false).filter (fun x => !decide (x.1=i)):=by
    rw [List.filter_filter]
    congr 1
    funext x
    rw [getD_set _ _ _ hlt]
    cases listed.getD x.1 false<;>simp
   rw [e1,hL,List.filter_append,List.filter_cons]
   have e2:pre.filter (fun x => !decide (x.1=i))=pre:=List.filter_eq_self.2 (fun y hy=>by have:=hpre y hy;simp;omega)
   have e3:post.filter (fun x => !decide (x.1=i))=post:=List.filter_eq_self.2 (fun y hy=>by have:=hpost y hy;simp;omega)
   rw [e2,e3]
   simp
  have hcl' : ∀(k:Nat) p,ops[k]? = some p→(listed.setIfInBounds i true).getD k false=true→∀j,depO p j=true→(listed.setIfInBounds i true).getD j false=true:=by
   intro k p hp hk j hj
   rw [getD_set _ _ _ hlt] at hk ⊢
   simp only [Bool.or_eq_true,decide_eq_true_eq] at hk ⊢
   rcases hk with rfl|hk
   ·rw [ho'] at hp;cases hp;exact .inr (h2 j hj)
   ·exact .inr (hcl k p hp hk j hj)
  obtain ⟨Φ0,W,hrel,hbk⟩:=hR σ a w hr
  have hstep:=op_sound (Φ0:=Φ0) (W:=W) (M:=M) hT hall (base:=base) hbase ho (K':=wpAnyIn (FW r) 0 P .any ops.toArray Q' fuel (listed.setIfInBounds i true)) (Q':=Q') (fun σ' a' w' hk hr' => ih (listed.setIfInBounds i true) σ' a' w' (by have:=unlisted_set listed i hlt hset;omega) (by simpa using hs) hcl' (by rw [←hrem];exact hk) (hbk _ _ _ hr')) hb hrel
  unfold wpOpIn
  rw [ho]
  simp only
  split
  ·rename_i hw;rw [if_pos hw] at hstep;exact wpIn_of_wp (dstB_defer (hall i o ho)) hstep
  ·rename_i hw;rw [if_neg hw] at hstep;exact ⟨fun _ _=>trivial,hstep⟩
theorem opsR_sound {R:PS→Act→World→Prop} (hR:∀σ a w,R σ a w→∃Φ0 W,Rel Φ0 W M σ a w∧∀σ' a' w',Rel Φ0 W M σ' a' w'→R σ' a' w') (hT:T=tabOf P) {ops:Array Oper} (hall:∀(j:Nat) o,ops[j]? = some o→dstB M o=true) {base:Nat} (hbase:base+ops.size≤1000000) {ok:Nat→Nat→Bool} {r:Option Nat} {Q:PS→Prop} {Q' : Exit→Act→World→Prop} {tail:List Nat} (hQ:∀σ a w,Q σ→R σ a w→wpOpsIn (FW r) 0 P ops Q' tail a w) :
  ∀(l:List (Nat×Oper)),(∀x∈l,ops[x.1]? = some x.2)→∀(σ:PS) (a:Act) (w:World),PWops P T ops base ok l Q σ→R σ a w→wpOpsIn (FW r) 0 P ops Q' (l.map (·.1) ++ tail) a w
 | [],_,σ,a,w,h,hr=>hQ σ a w h hr
 |(i,o) :: rest,hl,σ,a,w,h,hr=>by
  have hio:ops[i]? = some o:=hl (i,o) (by simp)
  have ih:=opsR_sound hR hT hall hbase (ok:=ok) (r:=r) hQ rest (fun x hx=>hl x (by simp [hx]))
  simp only [List.map_cons,List.cons_append,wpOpsIn,hio]
  obtain ⟨Φ0,W,hrel,hbk⟩:=hR σ a w hr
  have:=op_sound hT hall hbase hio (K':=wpOpsIn (FW r) 0 P ops Q' (rest.map (·.1) ++ tail)) (Q':=Q') (fun σ' a' w' hk hr' => ih σ' a' w' hk (hbk _ _ _ hr')) h hrel
  split
  ·rename_i hw;rw [if_pos hw] at this;exact wpIn_of_wp (dstB_defer (hall i o hio)) this
  ·rename_i hw;rw [if_neg hw] at this;exact ⟨fun _ _=>trivial,this⟩
theorem indexed_len:∀(k:Nat) (l:List Oper),(indexed k l).length=l.length
 |_,[]=>rfl
 |k,o :: r=>by simp [indexed,indexed_len (k+1) r]
end
section
open Go.RowKit
variable {E:ItEnv} {Φ0:Ent} {W:World} {M:Nat} {κ:Come} {σ:PS} {a:Act} {w:World} {P:Program} {T:Tab} {Q:Exit→PS→Come→Prop}
theorem relJ_R:∀σ a w,RelJ E Φ0 W M κ σ a w→∃Φf W',Rel Φf W' M σ a w∧∀σ' a' w',Rel Φf W' M σ' a' w'→RelJ E Φ0 W M κ σ' a' w':=by
 intro σ a w h
 obtain ⟨Φf,-,h1,h2⟩:=h.go
 exact ⟨Φf,w,h1,fun σ' a' w' h3=>h2 Φf w σ' a' w' (Later.refl _ _) h3⟩
theorem RelJ.drew (h:RelJ E Φ0 W M κ σ a w):RelJ E Φ0 W M κ σ a w.drew:=by
 obtain ⟨Φf,-,⟨Φ,μ,ω,h1⟩,h2⟩:=h.go
 exact h2 Φf w σ a w.drew (Later.refl _ _) ⟨Φ,μ,ω,h1.drew⟩
theorem PWJ.region (hT:T=tabOf P) {l d:Nat} {A:List (List PV)→Prop} (hgiv:∀b,Old Φ0 W b→¬Mix Φ0.imm b) (hy:YOK P E l A Φ0.imm W.heap.size) (hr:Φ0.round=none) {id:Nat} {ops:List Oper} (hall2:(ops.all (dstB M) && Nat.ble (1000 * id+ops.length) 1000000)=true)
  {before after:List (Nat×Oper)} {n0:Nat} {y:Oper} (hsp:indexed 0 ops=before ++ (n0,y) :: after) {pre:List (List PV)} {x:List PV} (hk:κ=some pre)
  (h:PWops P T ops.toArray (1000 * id) (fun _ _=>true) before (fun σ' => YAt l A M pre x y d σ'∧∀b:Bool,PWops P T ops.toArray (1000 * id) (fun _ _=>true) after (fun σ'' => Q .normal σ'' (if b then some (pre ++ [x]) else none)) (ybehind σ' d b)) σ) :
  PWJ E Φ0 W P M (.region id ops.toArray false) Q σ κ:=by
 intro a w hrel
 subst hk
 have hall2':=hall2
 simp only [Bool.and_eq_true] at hall2'
 obtain ⟨hall,hb0⟩:=hall2'
 have hbase:=Nat.le_of_ble_eq_true hb0
 have hall' : ∀(j:Nat) o,ops.toArray[j]? = some o→dstB M o=true:=by
  intro j o hj
  exact List.all_eq_true.1 hall o (mem_of_get (by simpa using hj))
 have hmem:∀z∈indexed 0 ops,ops.toArray[z.1]? = some z.2:=by
  intro z hz
  obtain ⟨-,h2⟩:=indexed_mem 0 ops z hz
  simpa using h2
 refine wpIn_region ?_
 have hidx:List.range ops.toArray.size=before.map (·.1) ++ (n0 :: after.map (·.1)):=by
  rw [List.range_eq_range',List.size_toArray,←indexed_fst,hsp]
  simp
 rw [hidx]
 refine opsR_sound (R:=RelJ E Φ0 W M (some pre)) relJ_R hT hall' (by simpa using hbase) (fun σ' a' w' hq hr' => ?_) before (fun z hz=>hmem z (by rw [hsp];exact List.mem_append.2 (.inl hz))) σ a w h hrel
 obtain ⟨hya,haf⟩:=hq
 have hn0:ops.toArray[n0]? = some y:=hmem (n0,y) (by rw [hsp];exact List.mem_append.2 (.inr List.mem_cons_self))
 simp only [wpOpsIn,hn0]
 have hw:Region.wanted y (yielded ops.toArray a'.tmps)=true:=by simp [Region.wanted,hya.guard]
 rw [if_pos hw]
 refine yield_sound hgiv hy hr hr' hya (fun b a2 w2 hr2=>?_)
 have:=opsR_sound (R:=RelJ E Φ0 W M (if b then some (pre ++ [x]) else none)) (r:=Φ0.round) (Q':=fun e a' w' => ∃σ' κ',Q e σ' κ'∧RelJ E Φ0 W M κ' σ' a' w') (tail := []) relJ_R hT hall' (by simpa using hbase) (fun σ'' a3 w3 hq hr3=>⟨σ'',_,hq,hr3⟩) after (fun z hz=>hmem z (by rw [hsp];exact List.mem_append.2 (.inr (List.mem_cons_of_mem _ hz)))) _ a2 w2 (haf b) hr2
 simpa using this
end
section
open Go.RowKit
def drawY (ops:List Oper) (n0:Nat):Bool:=drawB ops && (List.range n0).all (fun j=>((clos ops).getD n0 []).contains j) && (List.range' (n0+1) (ops.length - (n0+1))).all (fun j=>((clos ops).getD j []).contains n0)
end
section
open Go.RowKit
variable {E:ItEnv} {Φ0:Ent} {W:World} {M:Nat} {κ:Come} {σ:PS} {a:Act} {w:World} {P:Program} {T:Tab} {Q:Exit→PS→Come→Prop} {ops:List Oper} {base:Nat}
theorem any_soundY (hT:T=tabOf P) (hbase:base+ops.toArray.size≤1000000) (hall:∀(j:Nat) o,ops.toArray[j]? = some o→dstB M o=true) {n0:Nat} (hdraw:drawY ops n0=true)
  {l d:Nat} {A:List (List PV)→Prop} (hgiv:∀b,Old Φ0 W b→¬Mix Φ0.imm b) (hy:YOK P E l A Φ0.imm W.heap.size) (hr:Φ0.round=none) {pre:List (List PV)} {x:List PV} {before after:List (Nat×Oper)} {y:Oper} (hsp:indexed 0 ops=before ++ (n0,y) :: after) {Q' : Exit→Act→World→Prop} {Qa:Bool→PS→Prop}
  (hQ:∀b σ a w,Qa b σ→RelJ E Φ0 W M (if b then some (pre ++ [x]) else none) σ a w→Q' .normal a w) :
  ∀(fuel:Nat) (listed:Array Bool) (σ:PS) (a:Act) (w:World),unlisted listed≤fuel→listed.size=ops.length→(∀(i:Nat) o,ops[i]? = some o→listed.getD i false=true→∀j,depO o j=true→listed.getD j false=true)→listed.getD n0 false=false →
   PWops P T ops.toArray base (okR ops base) (before.filter fun x => !listed.getD x.1 false) (fun σ' => YAt l A M pre x y d σ'∧∀b,PWops P T ops.toArray base (okR ops base) after (Qa b) (ybehind σ' d b)) σ→RelJ E Φ0 W M (some pre) σ a w→wpAnyIn (FW Φ0.round) 0 P .any ops.toArray Q' fuel listed a w:=by
 simp only [drawY,Bool.and_eq_true] at hdraw
 obtain ⟨⟨hdr,hd1⟩,hd2⟩:=hdraw
 obtain ⟨hE,hI⟩:=draw_parts hdr
 have hsz:∀listed:Array Bool,listed.size=ops.length→listed.size=ops.toArray.size:=fun l h=>by simpa using h
 have hsorted:=indexed_sorted 0 ops
 rw [hsp,List.pairwise_append] at hsorted
 obtain ⟨hsb,hsa,hsx⟩:=hsorted
 rw [List.pairwise_cons] at hsa
 have hmem:∀z∈indexed 0 ops,ops[z.1]? = some z.2:=by
  intro z hz
  obtain ⟨-,h2⟩:=indexed_mem 0 ops z hz
  simpa using h2
 have hy0:ops[n0]? = some y:=hmem (n0,y) (by rw [hsp];exact List.mem_append.2 (.inr List.mem_cons_self))
 have hn0:n0 < ops.length:=(List.getElem?_eq_some_iff.1 hy0).1
 have hbm:∀z∈before,z.1 < n0∧ops[z.1]? = some z.2:=fun z hz=>⟨hsx z hz (n0,y) List.mem_cons_self,hmem z (by rw [hsp];exact List.mem_append.2 (.inl hz))⟩
 have ham:∀z∈after,n0 < z.1∧ops[z.1]? = some z.2:=fun z hz=>⟨hsa.1 z hz,hmem z (by rw [hsp];exact List.mem_append.2 (.inr (List.mem_cons_of_mem _ hz)))⟩
 have hcb:∀z∈before,z.1∈(clos ops).getD n0 []:=fun z hz=>List.contains_iff_mem.1 (List.all_eq_true.1 hd1 z.1 (List.mem_range.2 (hbm z hz).1))
 have hca:∀z∈after,n0∈(clos ops).getD z.1 []:=fun z hz=>List.contains_iff_mem.1 (List.all_eq_true.1 hd2 z.1 (by
  have:=(ham z hz).1
  have:=(List.getElem?_eq_some_iff.1 (ham z hz).2).1
  rw [List.mem_range'_1];omega))
 have hinx:∀(i:Nat) o,ops[i]? = some o→(i,o)∈indexed 0 ops:=by
  have:∀(l:List Oper) (k i:Nat) o,l[i]? = some o→(k+i,o)∈indexed k l:=by
   intro l
   induction l with
   |nil=>intro k i o h;simp at h
   |cons p l ih=>
    intro k i o h
    cases i with
    |zero=>simp at h;subst h;simp [indexed]
    |succ i=>
     simp at h
     have:=ih (k+1) i o h
     simp only [indexed,List.mem_cons]
     right
     rw [show k+(i+1)=k+1+i by omega];exact this
  intro i o h
  have:=this ops 0 i o h
  rwa [Nat.zero_add] at this
 have alls:∀listed:Array Bool,listed.size=ops.length→Region.ready .any ops.toArray listed = []→∀i,i < ops.length→listed.getD i false=true:=by
  intro listed hs hr i
  induction i using Nat.strongRecOn with
  |_ i ih=>
   intro hi
   have ho:ops.toArray[i]? = some ops[i]:=by simp [hi]
   cases hl:listed.getD i false with
   |true=>rfl
   |false=>
    have:i∈Region.ready .any ops.toArray listed:=(mem_ready (hsz listed hs)).2 ⟨ops[i],ho,hl,fun j hj=>by
     obtain ⟨e,he,hb,rfl⟩:=depO_iff.1 hj
     have:=hE i ops[i] (by simp [hi]) e he hb
     exact ih e.on this (by omega)⟩
    rw [hr] at this;cases this
 intro fuel
 induction fuel with
 |zero=>
  intro listed σ a w hu hs hcl hn h hr
  have hl:=unlisted_zero (Nat.le_zero.1 hu)
  rw [hl n0 (by rw [hs];exact hn0)] at hn
  cases hn
 |succ fuel ih=>
  intro listed σ a w hu hs hcl hn h hrel
  refine ⟨(fun hrd=>by rw [alls listed hs hrd n0 hn0] at hn;cases hn),fun i hi=>?_⟩
  obtain ⟨o,ho,h1,h2⟩:=(mem_ready (hsz listed hs)).1 hi
  have ho' : ops[i]? = some o:=by simpa using ho
  have hil:i < ops.length:=(List.getElem?_eq_some_iff.1 ho').1
  have hset:listed.getD i false=false:=h1
  have hlt:i < listed.size:=by rw [hs];exact hil
  have hcl' : ∀(k:Nat) p,ops[k]? = some p→(listed.setIfInBounds i true).getD k false=true→∀j,depO p j=true→(listed.setIfInBounds i true).getD j false=true:=by
   intro k p hp hk j hj
   rw [getD_set _ _ _ hlt] at hk ⊢
   simp only [Bool.or_eq_true,decide_eq_true_eq] at hk ⊢
   rcases hk with rfl|hk
   ·rw [ho'] at hp;cases hp;exact .inr (h2 j hj)
   ·exact .inr (hcl k p hp hk j hj)
  have hin:=hinx i o ho'
  rw [hsp] at hin
  rcases List.mem_append.1 hin with hin|hin
  ·-- ahead of the call
   have hmem:(i,o)∈before.filter fun x => !listed.getD x.1 false:=by
    rw [List.mem_filter]
    exact ⟨hin,by simp [h1]⟩
   obtain ⟨pre',post',hL⟩:=List.append_of_mem hmem
   have hsort:(before.filter fun x => !listed.getD x.1 false).Pairwise (fun a b=>a.1 < b.1):=hsb.filter _
   rw [hL] at h hsort
   rw [List.pairwise_append] at hsort
   obtain ⟨-,hs2,hs3⟩:=hsort
   rw [List.pairwise_cons] at hs2
   have hpre:∀y∈pre',y.1 < i:=fun y hy=>hs3 y hy (i,o) (by simp)
   have hpost:∀y∈post',i < y.1:=fun y hy=>hs2.1 y hy
   have hprem:∀y∈pre',ops[y.1]? = some y.2∧listed.getD y.1 false=false:=by
    intro y hy
    have:y∈before.filter fun x => !listed.getD x.1 false:=by rw [hL];simp [hy]
    rw [List.mem_filter] at this
    exact ⟨(hbm y this.1).2,by simpa using this.2⟩
   have hb:=PWops.bubble (P:=P) (T:=T) (base:=base) (ok:=okR ops base) (cl:=clos ops) (ix:=i) (x:=o) (post:=post') (Q:=fun σ' => YAt l A M pre x y d σ'∧∀b,PWops P T ops.toArray base (okR ops base) after (Qa b) (ybehind σ' d b)) pre' σ (by
    intro y hy
    obtain ⟨q1,q2⟩:=hprem y hy
    have hlt:=hpre y hy
    have hnc:y.1∉(clos ops).getD i []:=fun hc=>by
     rw [clos_listed hE hcl i o ho' h2 y.1 hc] at q2;cases q2
    have hyl:y.1 < ops.length:=(List.getElem?_eq_some_iff.1 q1).1
    refine ⟨⟨by simpa using (hI i y.1 o y.2 ho' q1 hlt).resolve_left hnc,fun hs j hj1 hj2=>sep_ok (ops:=ops) q1 ho' (by simpa using hs) j hj1 hj2⟩,by omega,?_,?_⟩
    ·rw [okR,Bool.and_eq_false_iff];left
     simp only [okD,Bool.or_eq_false_iff,decide_eq_false_iff_not]
     refine ⟨⟨by omega,by omega⟩,?_⟩
     rw [Nat.add_sub_cancel_left]
     simpa using hnc
    ·rw [okR,Bool.and_eq_false_iff];left
     simp only [okD,Bool.or_eq_false_iff,decide_eq_false_iff_not]
     refine ⟨⟨by omega,by omega⟩,?_⟩
     rw [Nat.add_sub_cancel_left]
     have:i∉(clos ops).getD y.1 []:=fun hc=>by have:=clos_lt hE y.1 y.2 q1 i hc;omega
     simpa using this) h
   have hrem:pre' ++ post' = before.filter fun x => !(listed.setIfInBounds i true).getD x.1 false:=by
    have e1:(before.filter fun x => !(listed.setIfInBounds i true).getD x.1 false)=(before.filter fun x => !listed.getD x.1 false).filter (fun x => !decide (x.1=i)):=by
     rw [List.filter_filter]
     congr 1
     funext x
     rw [getD_set _ _ _ hlt]
     cases listed.getD x.1 false<;>simp
    rw [e1,hL,List.filter_append,List.filter_cons]
    have e2:pre'.filter (fun x => !decide (x.1=i))=pre':=List.filter_eq_self.2 (fun y hy=>by have:=hpre y hy;simp;omega)
    have e3:post'.filter (fun x => !decide (x.1=i))=post':=List.filter_eq_self.2 (fun y hy=>by have:=hpost y hy;simp;omega)
    rw [e2,e3]
    simp
   have hn' : (listed.setIfInBounds i true).getD n0 false=false:=by
    rw [getD_set _ _ _ hlt]
    have:=(hbm (i,o) hin).1
    simp only at this
    rw [hn]
    simp;omega
   obtain ⟨Φf,W',hrel',hbk⟩:=relJ_R σ a w hrel
   have hstep:=op_sound (Φ0:=Φf) (W:=W') (M:=M) hT hall (base:=base) hbase ho (K':=wpAnyIn (FW Φ0.round) 0 P .any ops.toArray Q' fuel (listed.setIfInBounds i true)) (Q':=Q') (fun σ' a' w' hk hr' => ih (listed.setIfInBounds i true) σ' a' w' (by have:=unlisted_set listed i hlt hset;omega) (by simpa using hs) hcl' hn' (by rw [←hrem];exact hk) (hbk _ _ _ hr')) hb hrel'
   unfold wpOpIn
   rw [ho]
   simp only
   split
   ·rename_i hw;rw [if_pos hw] at hstep;exact wpIn_of_wp (dstB_defer (hall i o ho)) hstep
   ·rename_i hw;rw [if_neg hw] at hstep;exact ⟨fun _ _=>trivial,hstep⟩
  ·rcases List.mem_cons.1 hin with hin|hin
   ·-- the call
    cases hin
    have hall' : ∀z∈before,listed.getD z.1 false=true:=fun z hz=>clos_listed hE hcl n0 y hy0 h2 z.1 (hcb z hz)
    have hnil:(before.filter fun x => !listed.getD x.1 false) = []:=by
     rw [List.filter_eq_nil_iff]
     intro z hz
     simp [hall' z hz]
    rw [hnil] at h
    obtain ⟨hya,haf⟩:=h
    unfold wpOpIn
    rw [ho]
    simp only
    have hw:Region.wanted y (yielded ops.toArray a.tmps)=true:=by simp [Region.wanted,hya.guard]
    rw [if_pos hw]
    refine yield_sound hgiv hy hr hrel hya (fun b a2 w2 hr2=>?_)
    refine any_soundR (R:=RelJ E Φ0 W M (if b then some (pre ++ [x]) else none)) (r:=Φ0.round) relJ_R hT hbase hall hdr (Q:=Qa b) (fun σ' a' w' hq hr' => hQ b σ' a' w' hq hr') fuel (listed.setIfInBounds n0 true) _ a2 w2 (by have:=unlisted_set listed n0 hlt hset;omega) (by simpa using hs) hcl' ?_ hr2
    have:((indexed 0 ops).filter fun x => !(listed.setIfInBounds n0 true).getD x.1 false)=after:=by
     rw [hsp,List.filter_append,List.filter_cons]
     have e1:(before.filter fun x => !(listed.setIfInBounds n0 true).getD x.1 false) = []:=by
      rw [List.filter_eq_nil_iff]
      intro z hz
      rw [getD_set _ _ _ hlt]
      simp [hall' z hz]
     have e2:(after.filter fun x => !(listed.setIfInBounds n0 true).getD x.1 false)=after:=by
      rw [List.filter_eq_self]
      intro z hz
      rw [getD_set _ _ _ hlt]
      have hz1:=(ham z hz).1
      have hz2:listed.getD z.1 false=false:=by
       cases hzz:listed.getD z.1 false with
       |false=>rfl
       |true=>
        have:=clos_listed hE hcl z.1 z.2 (ham z hz).2 (hcl z.1 z.2 (ham z hz).2 hzz) n0 (hca z hz)
        rw [hn] at this;cases this
      rw [hz2]
      simp;omega
     rw [e1,e2,getD_set _ _ _ hlt]
     simp
    rw [this]
    exact haf b
   ·-- behind the call: it has not come yet
    have:=clos_listed hE hcl i o ho' h2 n0 (hca (i,o) hin)
    rw [hn] at this;cases this
theorem PWJ.draw (hT:T=tabOf P) (hm:P.follows .mixedOrders=true) {l d:Nat} {A:List (List PV)→Prop} (hgiv:∀b,Old Φ0 W b→¬Mix Φ0.imm b) (hy:YOK P E l A Φ0.imm W.heap.size) (hr:Φ0.round=none) {id:Nat} (hall2:(ops.all (dstB M) && Nat.ble (1000 * id+ops.length) 1000000)=true) {n0:Nat} (hd:drawY ops n0=true)
  {before after:List (Nat×Oper)} {y:Oper} (hsp:indexed 0 ops=before ++ (n0,y) :: after) {pre:List (List PV)} {x:List PV} (hk:κ=some pre)
  (h:PWops P T ops.toArray (1000 * id) (okR ops (1000 * id)) before (fun σ' => YAt l A M pre x y d σ'∧∀b:Bool,PWops P T ops.toArray (1000 * id) (okR ops (1000 * id)) after (fun σ'' => Q .normal σ'' (if b then some (pre ++ [x]) else none)) (ybehind σ' d b)) σ) :
  PWJ E Φ0 W P M (.region id ops.toArray true) Q σ κ:=by
 intro a w hrel
 subst hk
 have hall2':=hall2
 simp only [Bool.and_eq_true] at hall2'
 obtain ⟨hall,hb0⟩:=hall2'
 have hbase:=Nat.le_of_ble_eq_true hb0
 refine wpIn_region_any hm ?_
 have hn0:n0 < ops.length:=by
  have:(n0,y)∈indexed 0 ops:=by rw [hsp];exact List.mem_append.2 (.inr List.mem_cons_self)
  obtain ⟨-,h2⟩:=indexed_mem 0 ops _ this
  exact (List.getElem?_eq_some_iff.1 (by simpa using h2)).1
 refine any_soundY (base:=1000 * id) (d:=d) (Qa:=fun b σ'' => Q .normal σ'' (if b then some (pre ++ [x]) else none)) hT (by simpa using hbase) (by
  intro j o hj
  exact List.all_eq_true.1 hall o (mem_of_get (by simpa using hj))) hd hgiv hy hr hsp (fun b σ' a' w' hq hr' => ⟨σ',_,hq,hr'⟩) _ _ σ a _ ?_ (by simp) ?_ ?_ ?_ hrel.drew
 ·unfold unlisted
  exact Nat.le_trans List.countP_le_length (by simp)
 ·intro i o ho hl
  simp [Array.getD_eq_getD_getElem?,Array.getElem?_replicate] at hl
  split at hl<;>simp_all
 ·simp [Array.getD_eq_getD_getElem?,Array.getElem?_replicate]
  split<;>rfl
 ·have:(before.filter fun x => !(Array.replicate ops.toArray.size false).getD x.1 false)=before:=by
   rw [List.filter_eq_self]
   intro x _
   simp [Array.getD_eq_getD_getElem?,Array.getElem?_replicate]
   split<;>rfl
  rw [this]
  exact h
theorem PWJ.drawN (n0:Nat) (hT:T=tabOf P) (hm:P.follows .mixedOrders=true) {l d:Nat} {A:List (List PV)→Prop} (hgiv:∀b,Old Φ0 W b→¬Mix Φ0.imm b) (hy:YOK P E l A Φ0.imm W.heap.size) (hr:Φ0.round=none) {id:Nat} (hall2:(ops.all (dstB M) && Nat.ble (1000 * id+ops.length) 1000000)=true) (hd:drawY ops n0=true)
  {y:Oper} (hsp:ops[n0]? = some y) {pre:List (List PV)} {x:List PV} (hk:κ=some pre)
  (h:PWops P T ops.toArray (1000 * id) (okR ops (1000 * id)) ((indexed 0 ops).take n0) (fun σ' => YAt l A M pre x y d σ'∧∀b:Bool,PWops P T ops.toArray (1000 * id) (okR ops (1000 * id)) ((indexed 0 ops).drop (n0+1)) (fun σ'' => Q .normal σ'' (if b then some (pre ++ [x]) else none)) (ybehind σ' d b)) σ) :
  PWJ E Φ0 W P M (.region id ops.toArray true) Q σ κ:=by
 refine PWJ.draw hT hm hgiv hy hr hall2 hd ?_ hk h
 have hlen:n0 < (indexed 0 ops).length:=by rw [indexed_len];exact (List.getElem?_eq_some_iff.1 hsp).1
 have e1:(indexed 0 ops)[n0]=(n0,y):=by
  have hf:((indexed 0 ops).map (·.1))[n0]? = some n0:=by
   rw [indexed_fst,List.getElem?_range' (by rw [indexed_len] at hlen;exact hlen)];simp
  rw [List.getElem?_map,List.getElem?_eq_getElem hlen] at hf
  have h1:((indexed 0 ops)[n0]).1=n0:=by simpa using hf
  obtain ⟨-,h2⟩:=indexed_mem 0 ops _ (List.getElem_mem hlen)
  rw [h1,Nat.sub_zero,hsp] at h2
  exact Prod.ext h1 (Option.some.inj h2).symm
 rw [←e1]
 exact (List.take_append_drop n0 _).symm.trans (by rw [List.drop_eq_getElem_cons hlen])
theorem PWJ.condT {c:Operand} {x y:Code} (hc:pev σ c = .val (.bool true)) (h:PWJ E Φ0 W P M x Q σ κ):PWJ E Φ0 W P M (.cond c x y) Q σ κ:=PWJ.cond hc h
theorem PWJ.condF {c:Operand} {x y:Code} (hc:pev σ c = .val (.bool false)) (h:PWJ E Φ0 W P M y Q σ κ):PWJ E Φ0 W P M (.cond c x y) Q σ κ:=PWJ.cond hc h
theorem thenJ {y:Code} (h:PWJ E Φ0 W P M y Q σ κ):ThenJ E Φ0 W P M y Q .normal σ κ:=h
theorem thenJ_ret {y:Code} (h:Q .ret σ κ):ThenJ E Φ0 W P M y Q .ret σ κ:=h
theorem thenJ_exit {y:Code} {i:Nat} (h:Q (.exit i) σ κ):ThenJ E Φ0 W P M y Q (.exit i) σ κ:=h
theorem blockJ {id:Nat} (h:Q .normal σ κ):BlockJ id Q .normal σ κ:=h
theorem blockJ_exit {id:Nat} (h:Q .normal σ κ):BlockJ id Q (.exit id) σ κ:=by simpa [BlockJ] using h
theorem blockJ_ret {id:Nat} (h:Q .ret σ κ):BlockJ id Q .ret σ κ:=h
theorem blockJ_other {id j:Nat} (hj:j≠id) (h:Q (.exit j) σ κ):BlockJ id Q (.exit j) σ κ:=by simpa [BlockJ,hj] using h
theorem loopJ {α:Type} {st:α→PS} {kf:α→Come} {I:α→Prop} {m:α→Nat} {x:α} (y:α) (hi:I y) (hm:m y < m x) (hs:Sub M σ (st y)) (hk:κ=kf y):LoopJ M st kf I m x Q .normal σ κ:=⟨y,hi,hm,hs,hk⟩
theorem loopJ_exit {α:Type} {st:α→PS} {kf:α→Come} {I:α→Prop} {m:α→Nat} {x:α} {j:Nat} (h:Q (.exit j) σ κ):LoopJ M st kf I m x Q (.exit j) σ κ:=h
theorem loopJ_ret {α:Type} {st:α→PS} {kf:α→Come} {I:α→Prop} {m:α→Nat} {x:α} (h:Q .ret σ κ):LoopJ M st kf I m x Q .ret σ κ:=h
def RetJ (T:Tab) (rs:List ResultVar) (S:List (List PV)→Prop):Exit→PS→Come→Prop
 | .ret,σ,κ=>(∃r,presult T σ rs=some r)∧∀xs,κ=some xs→S xs
 | .normal,σ,κ=>(∃r,presult T σ rs=some r)∧∀xs,κ=some xs→S xs
 |_,_,_=>False
theorem itspec_of_pwj (hT:T=tabOf P) {f:FuncId} {fn:Func} {c:Code} {caps:List PV} {A S:List (List PV)→Prop} (hf:P.funcs[f]? = some fn) (hb:fn.body=some c) (hcb:callB P f=true) (hlow:∀p∈caps,Low p) (hno:∀p∈caps,p.ownB=false) (hn:caps.length+1≤fn.ntmps)
  (h:∀(E:ItEnv) (Φ0:Ent) (W:World) (l:Nat),(∀b,Old Φ0 W b→¬Mix Φ0.imm b)→YOK P E l A Φ0.imm W.heap.size→Φ0.round=none→PWJ E Φ0 W P fn.ntmps c (RetJ T fn.results.toList S) (initS (.val (.func (.yield l) #[] #[]) :: caps)) (some [])):ItSpec P f caps A S:=by
 refine ⟨hcb,fun E l Φe w vs himm hgl hrep hy hJ=>(callsIn_wide (n:=0)).1 (callsIn_of_wp_marks hf hb trivial ?_)⟩
 have hext:∀b o u,Φe b o=some u→b < w.heap.size:=fun b o u e=>World.block_lt_of_cell? _ _ (himm b o u e)
 let Φ0:Ent:=⟨Φe,fun b=>b < w.heap.size∧Mix Φe b,fun _=>none,hgl,fun g hg=>hg.2,[],none⟩
 have hgiv:∀b,Old Φ0 w b→¬Mix Φ0.imm b:=fun b hb hm=>hb.2 ⟨hb.1,hm⟩
 have hrep' : RepL Φe mu0 (.val (.func (.yield l) #[] #[]) :: caps) (.func (.yield l) #[] #[] :: vs):=RepL.cons (.val _ rfl) hrep
 have hargs:(#[.func (.yield l) #[] #[]] ++ vs.toArray:Array Value)=(.func (.yield l) #[] #[] :: vs:List Value).toArray:=by
  apply Array.ext'; simp
 rw [hargs]
 have hlow' : ∀p∈(PV.val (.func (.yield l) #[] #[]) :: caps),Low p:=by
  intro p hp
  rcases List.mem_cons.1 hp with rfl|hp
  ·exact .val _
  ·exact hlow p hp
 have hno' : ∀p∈(PV.val (.func (.yield l) #[] #[]) :: caps),p.ownB=false:=by
  intro p hp
  rcases List.mem_cons.1 hp with rfl|hp
  ·rfl
  ·exact hno p hp
 have hg:RelG Φ0 w fn.ntmps Φe mu0 (fun _=>none) (initS (.val (.func (.yield l) #[] #[]) :: caps)) { tmps:=(.func (.yield l) #[] #[] :: vs:List Value).toArray ++ Array.replicate (fn.ntmps - (.func (.yield l) #[] #[] :: vs:List Value).toArray.size) undef,defers := [] } w:=by
  refine ⟨Kept.refl _ _,⟨rfl,fun _ e=>by cases e⟩,by simp [hrep.1];omega,himm,fun _ _ _=>rfl,fun t=>?_,fun t n k cs E e=>?_,fun id bs e=>(by cases e),fun _ _ _=>rfl,fun g p e=>(by cases e),fun id g e=>(by cases e),fun id g e=>(by cases e),fun b o u e=>⟨e,hext b o u e⟩,fun id X e=>(by cases e),fun g p e=>(by cases e)⟩
  ·simp only [initS]
   cases ht:(PV.val (.func (.yield l) #[] #[]) :: caps)[t]? with
   |none=>exact .undef _
   |some p=>
    obtain ⟨u,hu,hru⟩:=hrep'.get ht
    have hlt:t < (.func (.yield l) #[] #[] :: vs:List Value).length:=(List.getElem?_eq_some_iff.1 hu).1
    have:((.func (.yield l) #[] #[] :: vs:List Value).toArray ++ Array.replicate (fn.ntmps - (.func (.yield l) #[] #[] :: vs:List Value).toArray.size) undef).getD t undef=u:=by
     rw [Array.getD_eq_getD_getElem?,Array.getElem?_append_left (by simpa using hlt)]
     rw [List.getElem?_toArray,hu];rfl
    rw [this]
    exact hru
  ·simp only [initS] at e
   cases ht:(PV.val (.func (.yield l) #[] #[]) :: caps)[t]? with
   |none=>rw [ht] at e;simp at e
   |some p=>
    rw [ht] at e
    simp at e
    have:=hno' p (mem_of_get ht)
    rw [e] at this;simp [PV.ownB] at this
 have hoff:offI Φe (fun _=>none)=Φe:=by funext b o;exact freshI_eq (fun p e=>by cases e)
 have hrel:RelJ E Φ0 w fn.ntmps (some []) (initS (.val (.func (.yield l) #[] #[]) :: caps)) { tmps:=(.func (.yield l) #[] #[] :: vs:List Value).toArray ++ Array.replicate (fn.ntmps - (.func (.yield l) #[] #[] :: vs:List Value).toArray.size) undef,defers := [] } w:=
  ⟨Φ0,w,Φe,mu0,fun _=>none,fun _=>False,Later.refl _ _,hg,by rw [hoff];exact hJ,fun g h=>h.elim,fun g p e=>(by cases e),fun b o u hb e=>(by have:=hext b o u e;omega),fun b o hb=>rfl,fun m hm=>(by cases hm)⟩
 refine wpIn_mono (h E Φ0 w l hgiv hy rfl _ w hrel) ?_
 rintro e a' w0 ⟨σ',κ,hq,hr⟩
 have fin:((∃r,presult T σ' fn.results.toList=some r)∧∀xs,κ=some xs→S xs)→LeavesInM (FW none) 0 P fn a'.tmps (fun e w' => ∃v κ K,e = .returned v∧(∀xs,κ=some xs→S xs)∧E.J κ (fun _=>False) K w') a'.defers .returning w0:=by
  rintro ⟨⟨r,hpr⟩,hS⟩
  obtain ⟨Φ1,W1,Φ,μ,ω,I,hl,hg,hJ,h1,h2,h3,h4,h5⟩:=hr
  obtain ⟨ms,hd1,hd2,hd3,hg'⟩:=RelG.shut (Φ0:=Φ0) rfl rfl hl hg
  rw [hd1]
  refine leaves_shut ms w0 hd2 hd3 ?_
  obtain ⟨v,r1,r2,r3⟩:=results_run hT hg' hpr
  refine ⟨v,r1,v,κ,offI Φ ω,rfl,hS,E.step hJ ?_ (fun g hh=>hh.elim) (fun b o u e _=>e) (fun b o u e=>?_)⟩
  ·obtain ⟨k1,k2,k3⟩:=shut_os ms w0
   refine ⟨k1,k2,k3,Nat.le_of_eq (shut_size ms w0).symm,fun k hk=>shut_other ms w0 k fun hm=>hk.2 (h5 k ?_)⟩
   obtain ⟨ms',e1,-,-⟩:=hl.marks
   have e2:Φ1.marks=ms':=by rw [e1];exact List.append_nil _
   have e3:=hg.defers.1
   rw [hd1,e2] at e3
   have:ms=ms':=by
    have hinj:∀(l l' : List Nat),l.map collD=l'.map collD→l=l':=by
     intro l
     induction l with
     |nil=>intro l' e;cases l' with
      |nil=>rfl
      |cons=>cases e
     |cons x l ih=>intro l' e;cases l' with
      |nil=>cases e
      |cons y l' =>
       simp only [List.map_cons,List.cons.injEq] at e
       have hxy:x=y:=by
        have:=e.1
        simp only [collD,Deferred.mk.injEq,Target.collected.injEq] at this
        exact this.1
       rw [hxy,ih l' e.2]
    exact hinj _ _ e3
   rw [e2,←this];exact hm
  ·exact hg'.imm b o u (offI_some.1 e).2
 cases e with
 |ret=>exact fin hq
 |normal=>exact fin hq
 |_=>exact hq.elim
end
section
open Go.RowKit
variable {Φ0:Ent} {W:World} {M:Nat} {Φ:Imm} {μ:Nat→Option Nat} {ω:Nat→Option Who} {σ:PS} {a:Act} {w:World} {P:Program} {T:Tab}
theorem RelG.rebaseA (h:RelG Φ0 W M Φ μ ω σ a w) {Φ1:Ent} {W1:World} {a' : Act} (ht:a'.tmps=a.tmps) (hb:Kept (Old Φ1 W1) W1 w) (hd:a'.defers=Φ1.marks.map collD∧RndOK Φ1 W1) (ho:∀b o,Old Φ1 W1 b→Φ b o=Φ1.imm b o)
  (hg:∀id g,Φ1.mu id=some g→1000000≤id) (hk:∀id g,Φ1.mu id=some g→(σ.b id≠none∨σ.m id≠none)→μ id=some g) (he:∀b o u,Φ1.imm b o=some u→Φ b o=some u∧b < W1.heap.size) (hm:∀g p,ω g=some p→Mine Φ1 W1 g):RelG Φ1 W1 M Φ μ ω σ a' w:=
 ⟨hb,hd,by rw [ht];exact h.size,h.imm,ho,by rw [ht];exact h.tmps,fun t n k cs E e=>by rw [ht];exact (h.own t n k cs E e).inB (fun g e=>hm g _ e),fun id bs e=>(h.box id bs e).inB (fun g q _ e=>hm g q e),h.gone,h.lt,hg,hk,he,fun id X e=>(h.map id X e).inB (fun g q _ e=>hm g q e),hm⟩
def OwnsX (c:PV):Prop:=∀n k cs E,c = .sl n k cs (some E)→cs = []∨∃(j:Nat) (c:PV),cs[j]? = some c∧noI64 c=true
theorem ownsX_no {c:PV} (h:c.ownB=false):OwnsX c:=fun n k cs E e=>by rw [e] at h;simp [PV.ownB] at h
theorem OwnAt.mixJ {B B' : Nat→Prop} {Φ:Imm} {μ:Nat→Option Nat} {ω ω' : Nat→Option Who} {w:World} {p:Who} {n k:Nat} {cs:List PV} {E:TypeId} {v:Value} (h:OwnAt B Φ ω w p n k E v) (hr:Rep Φ μ (.sl n k cs (some E)) v) (ho:OwnsX (.sl n k cs (some E))) (hω:∀g,ω g=some p→Mix Φ g→ω' g=some p∧B' g):OwnAt B' Φ ω' w p n k E v:=by
 rcases h with h|⟨g,cap,cur,rfl,h2,h3,h4,h5,h6,h7,h8⟩|h
 ·exact .inl h
 ·obtain ⟨k1,k2⟩:=hω g h7 (own_mix hr h8.2 (ho n k cs E rfl))
  exact .inr (.inl ⟨g,cap,cur,rfl,k2,h3,h4,h5,h6,k1,h8⟩)
 ·exact .inr (.inr h)
structure OwnsS (σ:PS):Prop where
 t:∀t,(σ.t t).ownB=false
 b:∀id bs,σ.b id=some bs→∀c∈bs,OwnsX c
 m:∀id es clock,σ.m id=some (.map es clock)→∀e∈es,OwnsX e.2.2
theorem ownsS_bot:OwnsS bot:=⟨fun _=>rfl,fun _ _ e=>(by cases e),fun _ _ _ e=>(by cases e)⟩
theorem OwnsS.put {σ:PS} (h:OwnsS σ) {d:Nat} {p:PV} (hp:p.ownB=false):OwnsS (σ.put d p):=by
 refine ⟨fun t=>?_,h.b,h.m⟩
 simp only [PS.put,upd_if]
 split
 ·exact hp
 ·exact h.t t
theorem OwnsS.setb {σ:PS} (h:OwnsS σ) {i:Nat} {bs:List PV} (hp:∀c∈bs,OwnsX c):OwnsS (σ.setb i bs):=by
 refine ⟨h.t,fun id cs e=>?_,h.m⟩
 simp only [PS.setb,upd_if] at e
 split at e
 ·cases e;exact hp
 ·exact h.b id cs e
theorem OwnsS.setm {σ:PS} (h:OwnsS σ) {i:Nat} {X:PMap} (hp:∀es clock,X = .map es clock→∀e∈es,OwnsX e.2.2):OwnsS (σ.setm i X):=by
 refine ⟨h.t,h.b,fun id es clock e=>?_⟩
 simp only [PS.setm,upd_if] at e
 split at e
 ·cases e;exact hp es clock rfl
 ·exact h.m id es clock e
theorem ownsX_nil:∀c∈([]:List PV),OwnsX c:=fun c h=>by cases h
theorem ownsX_cons {c:PV} {cs:List PV} (h:OwnsX c) (hs:∀c∈cs,OwnsX c):∀d∈c :: cs,OwnsX d:=by
 intro d hd
 rcases List.mem_cons.1 hd with rfl|hd
 ·exact h
 ·exact hs d hd
open Classical in
theorem RelG.mixed (h:RelG Φ0 W M Φ μ ω σ a w) (ho:OwnsS σ):∃ωm,RelG Φ0 W M Φ μ ωm σ a w∧∀g p,ωm g=some p→ω g=some p∧Mix Φ g:=by
 let ωm:Nat→Option Who:=fun g=>if Mix Φ g then ω g else none
 have h1:∀g p,ωm g=some p→ω g=some p∧Mix Φ g:=by
  intro g p e
  have e' : (if Mix Φ g then ω g else none)=some p:=e
  split at e'
  ·rename_i hm;exact ⟨e',hm⟩
  ·cases e'
 have h2:∀g p,ω g=some p→Mix Φ g→ωm g=some p:=fun g p e hm=>by show (if _ then _ else _)=_;rw [if_pos hm];exact e
 have h3:∀g,(∀j,Φ g j=none)→Mix Φ g:=fun g hj o u e=>by rw [hj] at e;cases e
 refine ⟨ωm,⟨h.below,h.defers,h.size,h.imm,h.old,h.tmps,fun t n k cs E e=>?_,fun id bs e=>?_,h.gone,fun g p e=>h.lt g p (h1 g p e).1,h.gmu,h.kmu,h.ext,fun id X e=>?_,fun g p e=>h.mine g p (h1 g p e).1⟩,h1⟩
 ·have:=ho.t t
  rw [e] at this
  simp [PV.ownB] at this
 ·obtain ⟨g,cur,Ty,k1,k2,k3,k4,k5,k6,k7⟩:=h.box id bs e
  refine ⟨g,cur,Ty,k1,k2,k3,h2 g _ k4 (h3 g k5),k5,k6,fun j c hc=>?_⟩
  obtain ⟨u,r1,r2,r3,r4⟩:=k7 j c hc
  refine ⟨u,r1,r2,r3,fun n k cs E e' => (r4 n k cs E e').mixJ (cs:=cs) (μ:=μ) (by rw [←e'];exact r3) (by rw [←e'];exact ho.b id bs e c (mem_of_get hc)) (fun g' e2 hno=>⟨h2 g' _ e2 hno,h.mine g' _ e2⟩)⟩
 ·obtain ⟨g,k1,k2,k3,k4,k5⟩:=h.map id X e
  refine ⟨g,k1,k2,h2 g _ k3 (h3 g k4),k4,?_⟩
  cases X with
  |map es clock=>
   obtain ⟨e0,ents,e1,e2,e3⟩:=k5
   refine ⟨e0,ents,e1,e2,fun j s k c hj=>?_⟩
   obtain ⟨en,f1,f2,f3,f4,f5⟩:=e3 j s k c hj
   refine ⟨en,f1,f2,f3,f4,fun n kk cs E ec=>(f5 n kk cs E ec).mixJ (cs:=cs) (μ:=μ) (by rw [←ec];exact f4) (by rw [←ec];exact ho.m id es clock e _ (mem_of_get hj)) (fun g' e2 hno=>⟨h2 g' _ e2 hno,h.mine g' _ e2⟩)⟩
  |iter=>exact k5
theorem RelG.subS {σ' : PS} (h:RelG Φ0 W M Φ μ ω σ a w) (hs:Sub M σ σ'):∃Φ' μ' ω',RelG Φ0 W M Φ' μ' ω' σ' a w∧Since Φ ω w Φ' ω' w:=by
 obtain ⟨Φ',μ',ω',k⟩:=hs _ _ _ _ ⟨Φ,μ,ω,h.fresh0 h.gmu h.kmu⟩
 have hsi:=h.since (Later.refl _ _) k
 have hold0:∀b,Old Φ0 W b→b < w.heap.size∧∀p,ω b≠some p:=fun b hb=>⟨Nat.lt_of_lt_of_le hb.1 h.below.size,h.noOld hb⟩
 refine ⟨Φ',μ',ω',k.rebase h.below h.defers (fun b o hb=>?_) h.gmu k.kmu (fun b o u e=>⟨?_,(h.ext b o u e).2⟩) (fun g p e=>?_),hsi⟩
 ·rw [hsi.imm b o (hold0 b hb).1 (hold0 b hb).2];exact h.old b o hb
 ·by_cases hω:∃p,ω b=some p
  ·exact (k.ext b o u ((freshI_own hω).trans e)).1
  ·have:=h.ext b o u e
   rw [hsi.imm b o (Nat.lt_of_lt_of_le this.2 h.below.size) (fun p e=>hω ⟨p,e⟩)]
   exact this.1
 ·rcases hsi.own g p e with ⟨q,hq⟩|hq
  ·exact h.mine g q hq
  ·exact .inl (Nat.le_trans h.below.size hq)
theorem putObj_cell {w:World} {l:Nat} {ob:Obj} (hl:∀o u,w.cell? ⟨l,o,none⟩≠some u) {b o:Nat} {u:Value} (h:w.cell? ⟨b,o,none⟩=some u):(w.putObj l ob).cell? ⟨b,o,none⟩=some u:=by
 have hb:b≠l:=by rintro rfl;exact hl o u h
 simp only [World.cell?] at h ⊢
 rw [World.putObj_heap_other hb];exact h
theorem loop_nocell {w:World} {l:Nat} {r:Loop} (h:w.heap[l]? = some (.loop r)):∀o u,w.cell? ⟨l,o,none⟩≠some u:=by
 intro o u e
 simp only [World.cell?,h] at e
 cases e
theorem RelG.putLoop (h:RelG Φ0 W M Φ μ ω σ a w) {l:Nat} {r:Loop} (hl:w.heap[l]? = some (.loop r)) (hω:∀p,ω l≠some p) (hold:¬Old Φ0 W l) (r' : Obj):RelG Φ0 W M Φ μ ω σ a (w.putObj l r'):=by
 refine h.grow (h.below.trans ⟨rfl,rfl,rfl,by simp,fun k hk=>World.putObj_heap_other (fun e=>hold (e ▸ hk))⟩) (fun b o u e=>putObj_cell (loop_nocell hl) (h.imm b o u e)) (fun _ _ _=>rfl) (fun _ _ _ e=>e) (fun g p e=>⟨World.putObj_heap_other (fun e' => hω p (e' ▸ e)),fun _=>rfl⟩) (by simp)
theorem RelG.putRound (h:RelG Φ0 W M Φ μ ω σ a w) {l:Nat} {r r' : Loop} (hr:Φ0.round=some l) (hl:w.heap[l]? = some (.loop r)):RelG (h.freshE Φ0.mu) (w.putObj l (.loop r')) M Φ μ ω σ a (w.putObj l (.loop r')):=by
 obtain ⟨q1,q2,-⟩:=h.rnd hr
 have h1:=h.fresh0 h.gmu h.kmu
 let Φg:Ent:=⟨freshI Φ0.imm Φ ω,fun g=>(∃p,ω g=some p)∨g=l,Φ0.mu,h.freshGlob,fun g hg=>by
  rcases hg with hg|rfl
  ·exact h.freshMix hg
  ·intro o u e
   have:=h.imm _ _ _ (h.freshSub e)
   exact absurd this (loop_nocell hl o u),Φ0.marks,none⟩
 have h2:RelG Φg w M Φ μ ω σ a w:=h1.rebase (Kept.refl _ _) ⟨h1.defers.1,fun _ e=>by cases e⟩ (fun b o hb=>(freshI_eq fun p e=>hb.2 (.inl ⟨p,e⟩)).symm) h.gmu h.kmu (fun b o u e=>⟨h.freshSub e,RelG.fresh h (h.freshSub e)⟩) (fun g p e=>.inr (.inl ⟨p,e⟩))
 have h3:RelG Φg w M Φ μ ω σ a (w.putObj l (.loop r')):=h2.putLoop hl q2 (fun ho=>ho.2 (.inr rfl)) _
 refine h3.rebase (Kept.refl _ _) ⟨h1.defers.1,fun l' e=>?_⟩ (fun b o hb=>(freshI_eq fun p e=>hb.2 ⟨p,e⟩).symm) h.gmu h.kmu (fun b o u e=>⟨h.freshSub e,by simpa using RelG.fresh h (h.freshSub e)⟩) (fun g p e=>.inr ⟨p,e⟩)
 have e' : Φ0.round=some l':=e
 rw [hr] at e'
 cases e'
 exact ⟨⟨by simpa using q1,fun ⟨p,hp⟩=>q2 p hp⟩,r',World.putObj_heap_same q1⟩
def setps (f:Nat→PV):List Nat→List PV→Nat→PV
 |p :: ps,x :: xs=>setps (upd f p x) ps xs
 |_,_=>f
theorem RelG.puts:∀(ps:List Nat) (xs:List PV) (vs:List Value) (σ:PS) (a:Act),RelG Φ0 W M Φ μ ω σ a w→(∀p∈ps,p < M)→ps.length=xs.length→RepL Φ μ xs vs→(∀x∈xs,x.ownB=false) →
  RelG Φ0 W M Φ μ ω { σ with t:=setps σ.t ps xs } { a with tmps:=(ps.zip vs).foldl (fun t (p,v)=>t.setIfInBounds p v) a.tmps } w
 | [],xs,vs,σ,a,h,_,_,_,_=>by simpa [setps] using h
 |p :: ps,[],vs,σ,a,h,_,hl,_,_=>by cases hl
 |p :: ps,x :: xs,[],σ,a,h,_,_,hr,_=>by have:=hr.1;cases this
 |p :: ps,x :: xs,v :: vs,σ,a,h,hp,hl,hr,ho=>by
  have h1:=h.put (hp p List.mem_cons_self) (hr.2 0 x v rfl rfl) (ho x List.mem_cons_self)
  have:=RelG.puts ps xs vs _ _ h1 (fun q hq=>hp q (List.mem_cons_of_mem _ hq)) (by simpa using hl) ⟨by have:=hr.1;simpa using this,fun j y u h1 h2=>hr.2 (j+1) y u h1 h2⟩ (fun y hy=>ho y (List.mem_cons_of_mem _ hy))
  exact this
end
section
open Go.RowKit
def CJ (Φr:Ent) (W1:World) (M:Nat) (a0:Act) (l:Nat) (σ:PS) (I:Nat→Prop) (K:Imm) (w:World):Prop:=
 ∃Φ μ ω,RelG Φr W1 M Φ μ ω σ a0 w∧(∀g,I g→∀p,ω g≠some p)∧(∀p,ω l≠some p)∧(∀b o u,I b→Φ b o=some u→K b o=some u)∧(∀g,I g→W1.heap.size≤g)
end
section
open Go.RowKit
variable {Φr:Ent} {W1:World} {M:Nat} {a0:Act} {l:Nat} {σ:PS} {I I' : Nat→Prop} {K K' : Imm} {w w' : World} {P:Program}
theorem CJ.step (h:CJ Φr W1 M a0 l σ I K w) (hk:Kept (fun b=>b < w.heap.size∧¬I b) w w') (hI:∀g,I' g→I g∨w.heap.size≤g) (hK:∀b o u,K b o=some u→I b→K' b o=some u) (hc:∀b o u,K' b o=some u→w'.cell? ⟨b,o,none⟩=some u):CJ Φr W1 M a0 l σ I' K' w':=by
 obtain ⟨Φ,μ,ω,hg,h1,h2,h3,h4⟩:=h
 have hg' : RelG Φr W1 M Φ μ ω σ a0 w':=by
  refine hg.grow (hg.below.trans (hk.mono fun b hb=>⟨Nat.lt_of_lt_of_le hb.1 hg.below.size,fun hi=>?_⟩)) (fun b o u e=>?_) (fun _ _ _=>rfl) (fun _ _ _ e=>e) (fun g p e=>⟨hk.block g ⟨hg.lt g p e,fun hi=>h1 g hi p e⟩,fun _=>rfl⟩) hk.size
  ·have:=h4 b hi;have:=hb.1;omega
  ·by_cases hi:I b
   ·exact hc b o u (hK b o u (h3 b o u hi e) hi)
   ·have:=hg.imm b o u e
    simp only [World.cell?] at this ⊢
    rw [hk.block b ⟨RelG.fresh hg e,hi⟩]
    exact this
 refine ⟨Φ,μ,ω,hg',fun g hi p e=>?_,h2,fun b o u hi e=>?_,fun g hi=>?_⟩
 ·rcases hI g hi with h' | h'
  ·exact h1 g h' p e
  ·have:=hg.lt g p e;omega
 ·rcases hI b hi with h' | h'
  ·exact hK b o u (h3 b o u h' e) h'
  ·have:=RelG.fresh hg e;omega
 ·rcases hI g hi with h' | h'
  ·exact h4 g h'
  ·exact Nat.le_trans hg.below.size h'
theorem CJ.putLoop {r:Loop} (h:CJ Φr W1 M a0 l σ I K w) (hl:w.heap[l]? = some (.loop r)) (hold:¬Old Φr W1 l) (r' : Obj):CJ Φr W1 M a0 l σ I K (w.putObj l r'):=by
 obtain ⟨Φ,μ,ω,hg,h1,h2,h3,h4⟩:=h
 exact ⟨Φ,μ,ω,hg.putLoop hl h2 hold r',h1,h2,h3,h4⟩
theorem CJ.sub {σ' : PS} (h:CJ Φr W1 M a0 l σ I K w) (hs:Sub M σ σ') (hl:l < w.heap.size) (hI:∀g,I g→g < w.heap.size):CJ Φr W1 M a0 l σ' I K w:=by
 obtain ⟨Φ,μ,ω,hg,h1,h2,h3,h4⟩:=h
 obtain ⟨Φ',μ',ω',k,hsi⟩:=hg.subS hs
 have hno:∀g,g < w.heap.size→(∀p,ω g≠some p)→∀p,ω' g≠some p:=fun g hlt hn p e=>by
  rcases hsi.own g p e with ⟨q,hq⟩|hq
  ·exact hn q hq
  ·omega
 refine ⟨Φ',μ',ω',k,fun g hi=>hno g (hI g hi) (h1 g hi),hno l hl h2,fun b o u hi e=>?_,h4⟩
 rw [hsi.imm b o (hI b hi) (h1 b hi)] at e
 exact h3 b o u hi e
def roundNorm (M:Nat) (T:Nat→PV) (F' : PS) (Ip:Prop) (σ' : PS):Prop:=Ip∧Sub M { σ' with t:=T } F'∧∀t,LowI (Kn σ') (T t)
def roundOut (M:Nat) (o:Nat) (L:List Nat) (T:Nat→PV) (Q:PS→Prop) (σ' : PS):Prop:=
 (∀t,LowI (Kn σ') (T t))∧∃G σe,Sub M { σ' with t:=T } G∧(∀i,Kn G i→i∈L)∧SubR (fun i=>i+o) (Kn σe) G σe∧Q σe
def RoundP (M:Nat) (o:Nat) (L:List Nat) (T:Nat→PV) (F' : PS) (Ip:Prop) (Q:Exit→PS→Prop):Exit→PS→Prop
 | .normal,σ' => roundNorm M T F' Ip σ'
 | .ret,σ' => roundOut M o L T (Q .ret) σ'
 | .exit i,σ' => roundOut M o L T (Q (.exit i)) σ'
 | .goto i,σ' => roundOut M o L T (Q (.goto i)) σ'
 |_,_=>False
def NormP (K:PS→Prop):Exit→PS→Prop
 | .normal,σ=>K σ
 |_,_=>False
theorem normP {K:PS→Prop} {σ:PS} (h:K σ):NormP K .normal σ:=h
theorem round_sound {r0:Loop} {ps:List Nat} {x:List PV} {vs:List Value} {F F' : PS} {Q:Exit→PS→Prop} {Ip:Prop} {o:Nat} {L:List Nat} {Φe:Imm}
  (hgivm:∀g,g < W1.heap.size→Mine Φr W1 g→g≠l→Mix Φe g) (himmr:Φr.imm=Φe) (hkn:∀i g,Φr.mu i=some g→Kn F i) (hmu:∀i,Kn F i→1000000≤i) (hlW:l < W1.heap.size) (hlold:¬Old Φr W1 l) (hmix:Mix Φe l)
  (hF:OwnsS F) (hps:∀p∈ps,p < M) (hpx:ps.length=x.length) (hx:∀p∈x,Low p∧p.ownB=false) {assign body:Code} (hassign:PW P M assign (NormP fun σ1=>PW P M body (RoundP M o L F.t F' Ip Q) σ1) { F with t:=setps F.t ps x })
  (hJ:CJ Φr W1 M a0 l F I K w) (hl:w.heap[l]? = some (.loop r0)) (hrs:r0.state = .ready) (hI:∀g,I g→W1.heap.size≤g∧g < w.heap.size) (hK:∀b o u,K b o=some u→w.cell? ⟨b,o,none⟩=some u) (hK1:∀b o,b < W1.heap.size→K b o=Φe b o) (hK2:∀b o u,W1.heap.size≤b→K b o=some u→I b) (hrep:RepL K mu0 x vs) :
  assign.wpIn (FW (some l)) 0 P (Exit.then (fun a₁ w₁=>∃w₂,(Instr.beginRound l).run P w₁ = .ok () w₂∧body.wpIn (FW (some l)) 0 P (fun e a' w3=>(w3.heap[l]? = some (.loop { r0 with state:=.busy })∧Kept (fun g=>(I g∨(g < W1.heap.size∧¬Mix Φe g))) w w3∧(∀b o u,K b o=some u→w3.cell? ⟨b,o,none⟩=some u)) ∧
   (match e with
    | .normal=>Ip∧CJ Φr W1 M a0 l F' I K w3
    | .ret=>∃G σe,CJ Φr W1 M a0 l G I K w3∧(∀i,Kn G i→i∈L)∧SubR (fun i=>i+o) (Kn σe) G σe∧Q .ret σe
    | .exit i=>∃G σe,CJ Φr W1 M a0 l G I K w3∧(∀i,Kn G i→i∈L)∧SubR (fun i=>i+o) (Kn σe) G σe∧Q (.exit i) σe
    | .goto i=>∃G σe,CJ Φr W1 M a0 l G I K w3∧(∀i,Kn G i→i∈L)∧SubR (fun i=>i+o) (Kn σe) G σe∧Q (.goto i) σe
    |_=>False)) a₁ w₂) (fun _ _ _=>False))
   { tmps:=(ps.zip vs).foldl (fun t (p,v)=>t.setIfInBounds p v) a0.tmps,defers := [] } w:=by
 obtain ⟨Φp,μp,ωp,hgp,hc1,hc2,hc3,hc4⟩:=hJ
 -- what the iterator knows beside what is known
 let Φu:Imm:=fun b o=>(Φp b o).orElse fun _=>K b o
 have hue:∀b o u,Φu b o=some u→Φp b o=some u∨(Φp b o=none∧K b o=some u):=by
  intro b o u e
  have e' : ((Φp b o).orElse fun _=>K b o)=some u:=e
  cases hh:Φp b o with
  |some v=>rw [hh] at e'; left;simpa using e'
  |none=>rw [hh] at e'; right;exact ⟨rfl,by simpa using e'⟩
 have hup:∀b o u,Φp b o=some u→Φu b o=some u:=by
  intro b o u e
  show ((Φp b o).orElse fun _=>K b o)=some u
  rw [e];rfl
 have huK:∀b o u,K b o=some u→Φu b o=some u:=by
  intro b o u e
  show ((Φp b o).orElse fun _=>K b o)=some u
  cases hh:Φp b o with
  |none=>simpa using e
  |some v=>
   have e1:=hgp.imm b o v hh
   rw [hK b o u e] at e1
   simpa using e1.symm
 have hun:∀b o,¬I b→Φu b o=Φp b o:=by
  intro b o hi
  show ((Φp b o).orElse fun _=>K b o)=Φp b o
  cases hh:Φp b o with
  |some v=>rfl
  |none=>
   show K b o=none
   cases hk:K b o with
   |none=>rfl
   |some u=>
    rcases Nat.lt_or_ge b W1.heap.size with h' | h'
    ·rw [hK1 b o h',←himmr] at hk
     rw [(hgp.ext b o u hk).1] at hh;cases hh
    ·exact absurd (hK2 b o u h' hk) hi
 have hnI:∀b,Old Φr W1 b→¬I b:=fun b hb hi=>by have:=(hI b hi).1;have:=hb.1;omega
 have hg1:RelG Φr W1 M Φu μp ωp F a0 w:=hgp.grow hgp.below (fun b o u e=>(hue b o u e).elim (hgp.imm b o u) (fun h=>hK b o u h.2)) (fun b o hb=>hun b o (hnI b hb)) hup (fun g p e=>⟨rfl,fun j=>hun g j (fun hi=>hc1 g hi p e)⟩) (Nat.le_refl _)
 obtain ⟨ωm,hg2,hωm⟩:=hg1.mixed hF
 have hml:∀p,ωm l≠some p:=fun p e=>hc2 p (hωm l p e).1
 have hlw:l < w.heap.size:=Nat.lt_of_lt_of_le hlW hgp.below.size
 have hkn' : ∀i g,μp i=some g→Kn F i:=by
  intro i g e
  by_cases hk:Kn F i
  ·exact hk
  ·have:=PS.freeB_iff.1 (by simpa [Kn] using hk:F.freeB i=true)
   rw [hgp.gone i this.1 this.2] at e;cases e
 let Φk:Ent:=⟨Φu,fun g=>∃p,ωm g=some p,μp,hg2.glob,fun g ⟨p,e⟩=>(hωm g p e).2,[],some l⟩
 have hg3:=hg2.rebaseA (a':={ tmps:=a0.tmps,defers := [] }) (Φ1:=Φk) (W1:=w) rfl (Kept.refl _ _) ⟨rfl,fun l' e=>by cases e;exact ⟨⟨hlw,fun ⟨p,e⟩=>hml p e⟩,r0,hl⟩⟩ (fun b o hb=>rfl) (fun i g e=>hmu i (hkn' i g e)) (fun i g e _=>e) (fun b o u e=>⟨e,RelG.fresh hg2 e⟩) (fun g p e=>.inr ⟨p,e⟩)
 have hrep' : RepL Φu μp x vs:=⟨hrep.1,fun j p u h1 h2=>((hrep.2 j p u h1 h2).low (hx p (mem_of_get h1)).1).mono huK (fun _ _ e=>e)⟩
 have hg4:=RelG.puts ps x vs F _ hg3 hps hpx hrep' (fun p hp=>(hx p hp).2)
 refine wpIn_mono (hassign Φk w _ w ⟨_,_,_,hg4⟩) ?_
 rintro e a1 w1 ⟨σ1,Φ2,W2,hq,hl2,Φ',μ',ω',k1⟩
 cases e with
 |normal=>?_
 |_=>exact hq.elim
 have hs1:Kept (fun b=>b < w.heap.size∧∀p,ωm b≠some p) w w1:=(hl2.kept.trans (k1.below.mono hl2.old)).mono fun b hb=>⟨hb.1,fun ⟨p,e⟩=>hb.2 p e⟩
 have hl1:w1.heap[l]? = some (.loop r0):=(hs1.block l ⟨hlw,hml⟩).trans hl
 have hr2:Φ2.round=some l:=hl2.round
 refine ⟨_,run_beginRound hl1 hrs,?_⟩
 have k2:=k1.putRound (r':={ r0 with state:=.busy }) hr2 hl1
 have hω'l:∀p,ω' l≠some p:=(k1.rnd hr2).2.1
 have hbw:=hq _ _ _ _ ⟨_,_,_,k2⟩
 rw [show (k1.freshE Φ2.mu).round=some l from hr2] at hbw
 refine wpIn_mono hbw ?_
 rintro e a3 w3 ⟨σ',Φ3,W3,hq',hl3,Φ'',μ'',ω'',k3⟩
 have hsz1:w.heap.size≤w1.heap.size:=hs1.size
 have hω' : ∀g p,ω' g=some p→(∃q,ωm g=some q)∨w.heap.size≤g:=fun g p e=>(hl2.mine g (k1.mine g p e)).symm
 have hω'' : ∀g p,ω'' g=some p→(∃q,ωm g=some q)∨w.heap.size≤g:=by
  intro g p e
  rcases hl3.mine g (k3.mine g p e) with h' | ⟨q,h'⟩
  ·right
   have:w1.heap.size≤g:=by simpa using h'
   omega
  ·exact hω' g q h'
 have hs3:Kept (fun b=>b < w1.heap.size∧∀p,ω' b≠some p) (w1.putObj l (.loop { r0 with state:=.busy })) w3:=(hl3.kept.trans (k3.below.mono hl3.old)).mono fun b hb=>⟨by simpa using hb.1,fun ⟨p,e⟩=>hb.2 p e⟩
 have hb' : ∀b,b < w.heap.size→(∀p,ωm b≠some p)→∀p,ω' b≠some p:=fun b h1 h2 p e=>by
  rcases hω' b p e with ⟨q,hq⟩|hq
  ·exact h2 q hq
  ·omega
 have hs:Kept (fun b=>b < w.heap.size∧(∀p,ωm b≠some p)∧b≠l) w w3:=by
  refine ⟨hs3.os.trans hs1.os,hs3.tape.trans hs1.tape,hs3.output.trans hs1.output,Nat.le_trans hsz1 (by simpa using hs3.size),fun b hb=>?_⟩
  rw [hs3.block b ⟨Nat.lt_of_lt_of_le hb.1 hsz1,hb' b hb.1 hb.2.1⟩,World.putObj_heap_other hb.2.2]
  exact hs1.block b ⟨hb.1,hb.2.1⟩
 have hl3' : w3.heap[l]? = some (.loop { r0 with state:=.busy }):=by
  rw [hs3.block l ⟨Nat.lt_of_lt_of_le hlw hsz1,hω'l⟩]
  exact World.putObj_heap_same (Nat.lt_of_lt_of_le hlw hsz1)
 have hmu3:Φ3.mu=μp:=hl3.mu.trans hl2.mu
 have hsub:∀b o u,Φu b o=some u→Φ'' b o=some u:=by
  intro b o u e
  have e2:Φ2.imm b o=some u:=by rw [hl2.imm];exact e
  refine (k3.ext b o u ?_).1
  rw [hl3.imm]
  show freshI Φ2.imm Φ' ω' b o=some u
  by_cases hh:∃p,ω' b=some p
  ·rw [freshI_own hh];exact e2
  ·rw [freshI_eq fun p e=>hh ⟨p,e⟩];exact (k1.ext b o u e2).1
 have hold:∀b o,b < w.heap.size→(∀p,ωm b≠some p)→Φ'' b o=Φu b o:=by
  intro b o h1 h2
  have h3:=hb' b h1 h2
  have e1:Φ' b o=Φu b o:=by
   rw [k1.old b o (hl2.old b ⟨h1,fun ⟨p,e⟩=>h2 p e⟩),hl2.imm]
  have hlt:b < w1.heap.size:=Nat.lt_of_lt_of_le h1 hsz1
  rw [k3.old b o (hl3.old b ⟨by simpa using hlt,fun ⟨p,e⟩=>h3 p e⟩),hl3.imm]
  show freshI Φ2.imm Φ' ω' b o=_
  rw [freshI_eq h3,e1]
 have hWr:∀b,Old Φr W1 b→b < w.heap.size∧(∀p,ωm b≠some p)∧b≠l:=fun b hb=>
  ⟨Nat.lt_of_lt_of_le hb.1 hgp.below.size,fun p e=>hgp.noOld hb p (hωm b p e).1,fun e=>hlold (e ▸ hb)⟩
 have hcJ:(∀t,LowI (Kn σ') (F.t t))→CJ Φr W1 M a0 l { σ' with t:=F.t } I K w3:=by
  intro hlow
  have hgT:RelG Φr W1 M Φ'' μ'' ω'' { σ' with t:=F.t } a0 w3:=by
   refine ⟨hgp.below.trans (hs.mono hWr),hgp.defers,hgp.size,k3.imm,fun b o hb=>?_,fun t=>?_,fun t n k cs E e=>?_,fun id bs e=>?_,k3.gone,k3.lt,hgp.gmu,fun i g e hi=>?_,fun b o u e=>?_,fun id X e=>?_,fun g p e=>?_⟩
   ·obtain ⟨q1,q2,-⟩:=hWr b hb
    rw [hold b o q1 q2,hun b o (hnI b hb)]
    exact hgp.old b o hb
   ·refine ((hgp.tmps t).mono hup (fun _ _ e=>e)).lowI (hlow t) (fun i hi g e=>?_) |>.mono hsub (fun _ _ e=>e)
    exact k3.kmu i g (by rw [hmu3];exact e) hi.spec
   ·have h':=hF.t t
    have e' : F.t t = .sl n k cs (some E):=e
    rw [e'] at h'
    simp [PV.ownB] at h'
   ·exact (k3.box id bs e).inB (fun g q _ e=>by
     rcases hω'' g q e with ⟨q',hq'⟩|hq'
     ·exact hgp.mine g q' (hωm g q' hq').1
     ·exact .inl (Nat.le_trans hgp.below.size hq'))
   ·have hkF:=hkn i g e
    exact k3.kmu i g (by rw [hmu3];exact hgp.kmu i g e hkF.spec) hi
   ·have h':=hgp.ext b o u e
    exact ⟨hsub b o u (hup b o u h'.1),h'.2⟩
   ·exact (k3.map id X e).inB (fun g q _ e=>by
     rcases hω'' g q e with ⟨q',hq'⟩|hq'
     ·exact hgp.mine g q' (hωm g q' hq').1
     ·exact .inl (Nat.le_trans hgp.below.size hq'))
   ·rcases hω'' g p e with ⟨q',hq'⟩|hq'
    ·exact hgp.mine g q' (hωm g q' hq').1
    ·exact .inl (Nat.le_trans hgp.below.size hq')
  have hnω:∀g,g < w.heap.size→(∀p,ωp g≠some p)→∀p,ω'' g≠some p:=fun g h1 h2 p e=>by
   rcases hω'' g p e with ⟨q,hq⟩|hq
   ·exact h2 q (hωm g q hq).1
   ·omega
  refine ⟨Φ'',μ'',ω'',hgT,fun g hi=>hnω g (hI g hi).2 (hc1 g hi),hnω l hlw hc2,fun b o u hi e=>?_,fun g hi=>(hI g hi).1⟩
  rw [hold b o (hI b hi).2 (fun p e=>hc1 b hi p (hωm b p e).1)] at e
  rcases hue b o u e with h' | h'
  ·exact hc3 b o u hi h'
  ·exact h'.2
 have hlw3:l < w3.heap.size:=Nat.lt_of_lt_of_le hlw hs.size
 have hIw3:∀g,I g→g < w3.heap.size:=fun g hi=>Nat.lt_of_lt_of_le (hI g hi).2 hs.size
 refine ⟨⟨hl3',hs.mono fun g hg=>?_,fun b o u e=>k3.imm b o u (hsub b o u (huK b o u e))⟩,?_⟩
 ·rcases hg with hi|⟨h1,h2⟩
  ·exact ⟨(hI g hi).2,fun p e=>hc1 g hi p (hωm g p e).1,fun e=>by have:=(hI g hi).1;omega⟩
  ·have hgl:g≠l:=by rintro rfl;exact h2 hmix
   exact ⟨Nat.lt_of_lt_of_le h1 hgp.below.size,fun p e=>h2 (hgivm g h1 (hgp.mine g p (hωm g p e).1) hgl),hgl⟩
 ·have hout:∀Q0:PS→Prop,roundOut M o L F.t Q0 σ'→∃G σe,CJ Φr W1 M a0 l G I K w3∧(∀i,Kn G i→i∈L)∧SubR (fun i=>i+o) (Kn σe) G σe∧Q0 σe:=by
   rintro Q0 ⟨h1,G,σe,h2,h3,h4,h5⟩
   exact ⟨G,σe,(hcJ h1).sub h2 hlw3 hIw3,h3,h4,h5⟩
  cases e with
  |normal=>exact ⟨hq'.1,(hcJ hq'.2.2).sub hq'.2.1 hlw3 hIw3⟩
  |ret=>exact hout _ hq'
  |exit i=>exact hout _ hq'
  |goto i=>exact hout _ hq'
  |panic ch=>exact hq'.elim
  |outgrown=>exact hq'.elim
end
section
open Go.RowKit
variable {M:Nat} {Q:Exit→PS→Prop} {σ:PS} {P:Program}
theorem enter_run {Φ0:Ent} {W:World} {Φ:Imm} {μ:Nat→Option Nat} {ω:Nat→Option Who} {a:Act} {w:World} (h:RelG Φ0 W M Φ μ ω σ a w) (fn:FuncId) (ps:Array Tmp) (assign body:Code) :
  ∃(l:Nat) (ms:List Nat) (df:Nat) (W1:World),(Instr.enterLoop fn a.tmps ps assign body (FW Φ0.round).round).run P w = .ok (l,ms.map collD) W1∧W1.heap[l]? = some (.loop { state:=.ready,pending:=none,fn,tmps:=a.tmps,params:=ps,assign,body,defers:=df })∧w.heap.size≤l∧Kept (fun b=>b < w.heap.size) w W1∧ms.Nodup ∧
   ∀m∈ms,w.heap.size≤m∧m < W1.heap.size∧m≠l∧W1.heap[m]? = some (.deferred (some [])):=by
 show ∃(l:Nat) (ms:List Nat) (df:Nat) (W1:World),(Instr.enterLoop fn a.tmps ps assign body Φ0.round).run P w=_∧_
 cases hro:Φ0.round with
 |none=>
  refine ⟨w.heap.size+1,[w.heap.size],w.heap.size,_,run_enterLoop_outer _ _ _ _ _,?_,by omega,⟨rfl,rfl,rfl,by simp;omega,fun k hk=>?_⟩,by simp,fun m hm=>?_⟩
  ·have:=World.alloc_heap_new (w.alloc (.deferred (some []))) (.loop { state:=.ready,pending:=none,fn,tmps:=a.tmps,params:=ps,assign,body,defers:=w.heap.size })
   rwa [World.size_alloc] at this
  ·rw [Below.heap_alloc _ _ _ (by simp;omega),Below.heap_alloc _ _ _ hk]
  ·have:m=w.heap.size:=by simpa using hm
   subst this
   refine ⟨Nat.le_refl _,by simp;omega,by omega,?_⟩
   exact (Below.heap_alloc _ _ _ (by simp)).trans (World.alloc_heap_new w _)
 |some l0=>
  obtain ⟨q1,q2,r,q3⟩:=h.rnd hro
  refine ⟨w.heap.size,[],r.defers,w.alloc (.loop { state:=.ready,pending:=none,fn,tmps:=a.tmps,params:=ps,assign,body,defers:=r.defers }),?_,World.alloc_heap_new w _,Nat.le_refl _,⟨rfl,rfl,rfl,by simp,fun k hk=>Below.heap_alloc _ _ _ hk⟩,by simp,fun m hm=>by cases hm⟩
  unfold Instr.enterLoop
  simp only [Sem.run_bind,run_getLoop q3,Result.andThen,Sem.run_pure,run_newObj_alloc]
  rfl
def putps (σ:PS):List Nat→List PV→PS
 |p :: ps,x :: xs=>putps (σ.put p x) ps xs
 |_,_=>σ
theorem putps_eq:∀(ps:List Nat) (xs:List PV) (σ:PS),{ σ with t:=setps σ.t ps xs } = putps σ ps xs
 | [],_,_=>rfl
 |_ :: _,[],_=>rfl
 |p :: ps,x :: xs,σ=>putps_eq ps xs (σ.put p x)
theorem lowT_bot {S:Nat→Prop} : ∀t,LowI S (bot.t t):=fun _=>.undef
theorem lowT_put {S:Nat→Prop} {σ:PS} {d:Nat} {p:PV} (h:∀t,LowI S (σ.t t)) (hp:LowI S p):∀t,LowI S ((σ.put d p).t t):=by
 intro t
 simp only [PS.put,upd_if]
 split
 ·exact hp
 ·exact h t
theorem lowT_setb {S:Nat→Prop} {σ:PS} {d:Nat} {bs:List PV} (h:∀t,LowI S (σ.t t)):∀t,LowI S ((σ.setb d bs).t t):=h
theorem lowT_setm {S:Nat→Prop} {σ:PS} {d:Nat} {X:PMap} (h:∀t,LowI S (σ.t t)):∀t,LowI S ((σ.setm d X).t t):=h
theorem roundP {o:Nat} {L:List Nat} {T:Nat→PV} {F' : PS} {Ip:Prop} (h1:Ip) (h2:Sub M { σ with t:=T } F') (h3:∀t,LowI (Kn σ) (T t)):RoundP M o L T F' Ip Q .normal σ:=⟨h1,h2,h3⟩
theorem roundP_ret {o:Nat} {L:List Nat} {T:Nat→PV} {F' : PS} {Ip:Prop} (G σe:PS) (h1:∀t,LowI (Kn σ) (T t)) (h2:Sub M { σ with t:=T } G) (h3:∀i,Kn G i→i∈L) (h4:SubR (fun i=>i+o) (Kn σe) G σe) (h5:Q .ret σe):RoundP M o L T F' Ip Q .ret σ:=⟨h1,G,σe,h2,h3,h4,h5⟩
open Classical in
theorem PW.rangeFunc {g:Operand} {ps:Array Tmp} {assign body:Code} {f:FuncId} {caps:List PV} {A S:List (List PV)→Prop} (o:Nat) (L:List Nat) (F:List (List PV)→PS) (I0:List (List PV)→Prop) (hI0:I0 [])
  (hg:pev σ g = .fn f caps) (hf:Nat.blt f 1000000=true) (hlow:∀p∈caps,Low p) (hit:ItSpec P f caps A S) (hin:SubR (fun i=>i - o) (Kn (F [])) σ (F []))
  (hk1:∀pre i,Kn (F pre) i→i∈L) (hk2:∀pre,∀i∈L,Kn (F pre) i) (hL:L.all (fun i=>Nat.ble o i)=true) (ho:1000000≤o) (hF:∀pre,OwnsS (F pre)) (hps:∀p∈ps.toList,p < M)
  (hx:∀pre x,A (pre ++ [x])→ps.toList.length=x.length∧∀p∈x,Low p∧p.ownB=false)
  (round:∀pre x,I0 pre→A (pre ++ [x])→PW P M assign (NormP fun σ1=>PW P M body (RoundP M o L (F pre).t (F (pre ++ [x])) (I0 (pre ++ [x])) Q) σ1) (putps (F pre) ps.toList x))
  (done:∀xs,S xs→I0 xs→∃σe,SubR (fun i=>i+o) (Kn σe) (F xs) σe∧Q .normal σe):PW P M (.rangeFunc g ps assign body) Q σ:=by
 intro Φ0 W a w ⟨Φ,μ,ω,hg0⟩
 refine wpIn_rangeFunc ?_
 intro fn hfn
 obtain ⟨l,ms,df,W1,hent,hl1,hlw,hkW,hnd,hms⟩:=enter_run (P:=P) hg0 fn ps assign body
 obtain ⟨rec,hrec⟩:∃rec:LoopState→Option Code→Loop,rec=fun st pe=>{ state:=st,pending:=pe,fn,tmps:=a.tmps,params:=ps,assign,body,defers:=df }:=⟨_,rfl⟩
 have hl1' : W1.heap[l]? = some (.loop (rec .ready none)):=by rw [hrec];exact hl1
 have hlW:l < W1.heap.size:=(Array.getElem?_eq_some_iff.1 hl1).1
 -- the iterator's value
 have hev:=hg0.ev g
 rw [hg] at hev
 have hlt:f < 1000000:=by simpa [Nat.blt_eq] using hf
 obtain ⟨us,hgv,hus⟩:∃us:List Value,a.eval g = .func (.func f) #[] us.toArray∧RepL Φ mu0 caps us:=by
  obtain ⟨us,e1,e2⟩:=hev.fn_inv
  refine ⟨us,?_,⟨e2.1,fun j p u h1 h2=>(e2.2 j p u h1 h2).low (hlow p (mem_of_get h1))⟩⟩
  rw [e1]
  unfold fnV
  rw [if_pos hlt]
 -- the caller's memory,under high numbers
 have hnum:∀i,Kn (F []) i→o≤i:=fun i hi=>Nat.le_of_ble_eq_true (List.all_eq_true.1 hL i (hk1 [] i hi))
 have hA:=hg0.fresh0 (mu:=fun _=>none) (fun _ _ e=>by cases e) (fun _ _ e=>by cases e)
 have hB:=hin.rel (fun i hi=>hi.spec) (fun i j hi hj e=>by have:=hnum i hi;have:=hnum j hj;have e' : i - o=j - o:=e;omega) (fun i hi g e=>by cases e) hA
 generalize hμ1:(fun i=>if Kn (F []) i then μ (i - o) else none)=μ1 at hB
 generalize hω1:(fun g=>unren (fun i=>i - o) (Kn (F [])) (ω g))=ω1 at hB
 obtain ⟨ω2,hC,hω2⟩:=hB.mixed (hF [])
 have hω:∀g p,ω2 g=some p→(∃q,ω g=some q)∧Mix Φ g∧g < w.heap.size:=by
  intro g p e
  have hlt':=hC.lt g p e
  rcases hC.mine g p e with h' | h'
  ·omega
  ·exact ⟨h',(hω2 g p e).2,hlt'⟩
 have hD:RelG (hg0.freshE fun _=>none) w M Φ μ1 ω2 (F []) a W1:=by
  refine hC.grow (hC.below.trans (hkW.mono fun b hb=>hb.1)) (fun b o u e=>?_) (fun _ _ _=>rfl) (fun _ _ _ e=>e) (fun g p e=>⟨hkW.block g (hω g p e).2.2,fun _=>rfl⟩) hkW.size
  have:=hg0.imm b o u e
  simp only [World.cell?] at this ⊢
  rw [hkW.block b (RelG.fresh hg0 e)];exact this
 have hω2l:∀p,ω2 l≠some p:=fun p e=>by have:=(hω l p e).2.2;omega
 have hΦl:∀j,Φ l j=none:=fun j=>by
  cases hh:Φ l j with
  |none=>rfl
  |some u=>have:=RelG.fresh hg0 hh;omega
 have hmixl:Mix Φ l:=fun o u e=>by rw [hΦl] at e;cases e
 let Φr:Ent:=⟨Φ,fun g=>(∃p,ω2 g=some p)∨g=l,μ1,hg0.glob,fun g hg' => hg'.elim (fun ⟨p,e⟩=>(hω g p e).2.1) (fun e=>e ▸ hmixl),ms ++ Φ0.marks,Φ0.round⟩
 let a0:Act:={ a with defers:=ms.map collD ++ a.defers }
 have hμk:∀i g,μ1 i=some g→Kn (F []) i∧μ (i - o)=some g:=by
  intro i g e
  rw [←hμ1] at e
  have e' : (if Kn (F []) i then μ (i - o) else none)=some g:=e
  split at e'
  ·rename_i hk;exact ⟨hk,e'⟩
  ·cases e'
 have hR:RelG Φr W1 M Φ μ1 ω2 (F []) a0 W1:=by
  refine hD.rebaseA rfl (Kept.refl _ _) ⟨?_,fun l0 e=>?_⟩ (fun b o hb=>rfl) (fun i g e=>Nat.le_trans ho (hnum i (hμk i g e).1)) (fun i g e _=>e) (fun b o u e=>⟨e,Nat.lt_of_lt_of_le (RelG.fresh hg0 e) hkW.size⟩) (fun g p e=>.inr (.inl ⟨p,e⟩))
  ·show ms.map collD ++ a.defers=(ms ++ Φ0.marks).map collD
   rw [hg0.defers.1,List.map_append]
  ·obtain ⟨q1,q2,r,q3⟩:=hg0.rnd e
   refine ⟨⟨Nat.lt_of_lt_of_le q1 hkW.size,fun hh=>?_⟩,r,(hkW.block l0 q1).trans q3⟩
   rcases hh with ⟨p,hp⟩|rfl
   ·obtain ⟨⟨q,hq⟩,-⟩:=hω l0 p hp;exact q2 q hq
   ·omega
 have hlold:¬Old Φr W1 l:=fun hh=>hh.2 (.inr rfl)
 -- what is known of the caller's memory
 let Out:Code→PS→PS→Prop:=fun c G σe=>(∀i,Kn G i→i∈L)∧SubR (fun i=>i+o) (Kn σe) G σe∧(match c with | .ret=>Q .ret σe | .exit i=>Q (.exit i) σe | .goto i=>Q (.goto i) σe|_=>False)
 let J:Come→(Nat→Prop)→Imm→World→Prop:=fun κ I K w' => l < w'.heap.size∧match κ with
  |some pre=>I0 pre∧w'.heap[l]? = some (.loop (rec .ready none))∧CJ Φr W1 M a0 l (F pre) I K w'
  |none=>∃c G σe,Out c G σe∧w'.heap[l]? = some (.loop (rec .done (some c)))∧CJ Φr W1 M a0 l G I K w'
 let E:ItEnv:=⟨J,fun {κ I I' K K' w1 w2} hJ hk hI hK hc=>by
  obtain ⟨hlt',hJ⟩:=hJ
  have hnl:∀{G:PS},CJ Φr W1 M a0 l G I K w1→w2.heap[l]? = w1.heap[l]?:=fun hcj=>hk.block l ⟨hlt',fun hi=>by obtain ⟨_,_,_,_,_,_,_,h4⟩:=hcj;have:=h4 l hi;omega⟩
  refine ⟨Nat.lt_of_lt_of_le hlt' hk.size,?_⟩
  cases κ with
  |some pre=>exact ⟨hJ.1,(hnl hJ.2.2).trans hJ.2.1,hJ.2.2.step hk hI hK hc⟩
  |none=>
   obtain ⟨c,G,σe,h1,h2,h3⟩:=hJ
   exact ⟨c,G,σe,h1,(hnl h3).trans h2,h3.step hk hI hK hc⟩⟩
 have hJ0:E.J (some []) (fun _=>False) Φ W1:=⟨hlW,hI0,hl1',Φ,μ1,ω2,hR,fun g h=>h.elim,hω2l,fun b o u h=>h.elim,fun g h=>h.elim⟩
 have hY:YOK P E l A Φ W1.heap.size:=by
  intro pre x I K w1 vs hAx hJ hI hK hK1 hK2 hKg hrep
  obtain ⟨hlt',hip,hlr,hcj⟩:=hJ
  obtain ⟨hxl,hxx⟩:=hx pre x hAx
  have hy:=run_yield (P:=P) (args:=vs.toArray) hlr (by rw [hrec];have:=hrep.1;simp at hxl ⊢; omega)
  rw [hrec] at hy
  refine ⟨fn,_,assign,body,hy,?_⟩
  have hrs:=round_sound (Φe:=Φ) (r0:=rec .ready none) (Q:=Q) (o:=o) (L:=L) (F:=F pre) (F':=F (pre ++ [x])) (ps:=ps.toList) (x:=x) (fun g h1 h2 h3=>by
    rcases h2 with h2|h2
    ·omega
    ·exact Φr.fl g h2) rfl (fun i g e=>hk2 pre i (hk1 [] i (hμk i g e).1)) (fun i hi=>Nat.le_trans ho (Nat.le_of_ble_eq_true (List.all_eq_true.1 hL i (hk1 pre i hi)))) hlW hlold hmixl (hF pre) hps hxl hxx (by rw [putps_eq];exact round pre x hip hAx) hcj hlr (by rw [hrec]) hI hK hK1 hK2 hrep
  have htm:(ps.zip vs.toArray).foldl (fun tmps (t,a)=>tmps.setIfInBounds t a) a.tmps=(ps.toList.zip vs).foldl (fun t (p,v)=>t.setIfInBounds p v) a0.tmps:=by
   rw [←Array.foldl_toList,Array.toList_zip]
  refine roundIn_of_wpIn trivial ?_
  simp only
  rw [htm]
  refine wpIn_mono hrs ?_
  rintro e a1 w2 hq
  cases e with
  |normal=>?_
  |_=>exact hq
  obtain ⟨w3,hbr,hbody⟩:=hq
  refine ⟨w3,hbr,wpIn_mono hbody ?_⟩
  rintro e a3 w4 ⟨⟨hl4,hk4,hK4⟩,hq⟩
  have hl4' : l < w4.heap.size:=(Array.getElem?_eq_some_iff.1 hl4).1
  have hnl:∀g,(I g∨(g < W1.heap.size∧¬Mix Φ g))→g≠l:=by
   rintro g (hi|⟨-,h2⟩) rfl
   ·have:=(hI g hi).1;omega
   ·exact h2 hmixl
  have fin:∀(jump:Option Code),(J (if jump.isNone then some (pre ++ [x]) else none) I K (w4.putObj l (.loop (rec (if jump.isNone then .ready else .done) jump))))→∃v w',(Instr.endRound l jump).run P w4 = .ok v w'∧(fun e w2=>∃b:Bool,e=Ending.returned (.bool b)∧E.J (if b then some (pre ++ [x]) else none) I K w2∧Kept (fun g=>I g∨(g < W1.heap.size∧¬Mix Φ g)) w1 w2∧(∀b o u,K b o=some u→w2.cell? ⟨b,o,none⟩=some u)) (.returned v) w':=by
   intro jump hJ'
   have:=run_endRound (P:=P) jump hl4
   rw [hrec] at this hJ'
   refine ⟨_,_,this,jump.isNone,rfl,hJ',hk4.trans ⟨rfl,rfl,rfl,by simp,fun k hk=>World.putObj_heap_other (hnl k hk)⟩,fun b o u e=>putObj_cell (loop_nocell hl4) (hK4 b o u e)⟩
  have same:∀r',(w4.putObj l (.loop r')).heap[l]? = some (.loop r'):=fun r' => World.putObj_heap_same hl4'
  cases e with
  |normal=>exact fin none ⟨by simpa using hl4',hq.1,same _,CJ.putLoop hq.2 hl4 hlold _⟩
  |ret=>
   obtain ⟨G,σe,h1,h2,h3,h4⟩:=hq
   exact fin (some .ret) ⟨by simpa using hl4', .ret,G,σe,⟨h2,h3,h4⟩,same _,CJ.putLoop h1 hl4 hlold _⟩
  |exit i=>
   obtain ⟨G,σe,h1,h2,h3,h4⟩:=hq
   exact fin (some (.exit i)) ⟨by simpa using hl4', .exit i,G,σe,⟨h2,h3,h4⟩,same _,CJ.putLoop h1 hl4 hlold _⟩
  |goto i=>
   obtain ⟨G,σe,h1,h2,h3,h4⟩:=hq
   exact fin (some (.goto i)) ⟨by simpa using hl4', .goto i,G,σe,⟨h2,h3,h4⟩,same _,CJ.putLoop h1 hl4 hlold _⟩
  |panic ch=>exact hq.elim
  |outgrown=>exact hq.elim
 -- the call of the iterator
 refine ⟨l,ms.map collD,W1,{ target:=.fn (.func f) us.toArray,args := #[.func (.yield l) #[] #[]] },W1,f,#[.func (.yield l) #[] #[]] ++ us.toArray,W1,hent,?_,fun f' _=>trivial,?_,(fun e=>by cases e),?_⟩
 ·simp only [resolve,hgv]
  simp [go_sem]
 ·simp [invoke,go_sem,run_callFunc hit.1]
 refine (Calls.inW (hit.2 E l Φ W1 us hR.imm hg0.glob hus hY hJ0)).mono ?_
 rintro e w2 ⟨v,κ,K,rfl,hS,hlt2,hJ2⟩
 -- behind the loop
 have back:∀(G σe:PS) (r' : Loop),(∀i,Kn G i→i∈L)→SubR (fun i=>i+o) (Kn σe) G σe→(∃r,w2.heap[l]? = some (.loop r))→CJ Φr W1 M a0 l G (fun _=>False) K w2→∃Φe We,Later Φ0 W Φe We∧Rel Φe We M σe a0 (w2.putObj l (.loop r')):=by
  rintro G σe r' hGL hsub ⟨r,hlr⟩ hcj
  obtain ⟨Φ3,μ3,ω3,h3,-,h3l,-,-⟩:=hcj.putLoop hlr hlold (.loop r')
  have h4:=hsub.rel (fun i hi=>hi.spec) (fun i j hi hj e=>by have e' : i+o=j+o:=e;omega) (fun i hi g e=>by cases e) (h3.fresh0 (mu:=fun _=>none) (fun _ _ e=>by cases e) (fun _ _ e=>by cases e))
  have hext:∀b o u,Φ0.imm b o=some u→Φ b o=some u∧b < W.heap.size:=hg0.ext
  have hWw:=hg0.below.size
  have hwW:=hkW.size
  have hold0:∀b,Old Φ0 W b→b < w.heap.size∧Old Φr W1 b:=by
   intro b hb
   have h1:b < w.heap.size:=Nat.lt_of_lt_of_le hb.1 hWw
   refine ⟨h1,Nat.lt_of_lt_of_le h1 hwW,fun hh=>?_⟩
   rcases hh with ⟨p,hp⟩|rfl
   ·obtain ⟨⟨q,hq⟩,-⟩:=hω b p hp;exact hg0.noOld hb q hq
   ·omega
  have holdm:∀m∈ms,Old Φr W1 m:=by
   intro m hm
   obtain ⟨q1,q2,q3,q4⟩:=hms m hm
   refine ⟨q2,fun hh=>?_⟩
   rcases hh with ⟨p,hp⟩|rfl
   ·have:=(hω m p hp).2.2;omega
   ·exact q3 rfl
  have hfl:∀g,(Mine Φ0 W g∧g < W1.heap.size∧g∉ms)→Mix Φ0.imm g:=by
   rintro g ⟨h',-⟩
   rcases h' with h' | h'
   ·intro o u e;have:=(hext g o u e).2;omega
   ·exact Φ0.fl g h'
  let Φe:Ent:=⟨Φ0.imm,fun g=>Mine Φ0 W g∧g < W1.heap.size∧g∉ms,Φ0.mu,Φ0.glob,hfl,ms ++ Φ0.marks,Φ0.round⟩
  have holdc:∀b,Old Φe W1 b→Old Φ0 W b∨b∈ms:=by
   rintro b ⟨hb1,hb2⟩
   by_cases hm:b∈ms
   ·exact .inr hm
   ·left
    by_cases hmi:Mine Φ0 W b
    ·exact absurd ⟨hmi,hb1,hm⟩ hb2
    ·exact ⟨Nat.lt_of_not_le fun hh=>hmi (.inl hh),fun hh=>hmi (.inr hh)⟩
  have holde:∀b,Old Φ0 W b→Old Φe W1 b:=fun b hb=>⟨(hold0 b hb).2.1,fun hh=>hh.1.ne hb rfl⟩
  have hkW0:Kept (Old Φ0 W) W W1:=hg0.below.trans (hkW.mono fun b hb=>(hold0 b hb).1)
  have hlat:Later Φ0 W Φe W1:=by
   refine ⟨rfl,rfl,rfl,hkW0,holde,fun g hg' => ?_,fun b hb=>(holdc b hb).imp id (fun h=>List.mem_append.2 (.inl h)),fun _ b o u e=>(hext b o u e).2,ms,rfl,hnd,fun m hm=>?_⟩
   ·rcases hg' with h' | h'
    ·exact .inl (Nat.le_trans hkW0.size h')
    ·exact h'.1
   ·obtain ⟨q1,q2,q3,q4⟩:=hms m hm
    exact ⟨Nat.le_trans hWw q1,⟨q2,fun hh=>hh.2.2 hm⟩,q4⟩
  refine ⟨Φe,W1,hlat,_,_,_,h4.rebase (h3.below.mono fun b hb=>?_) ⟨?_,fun l0 e=>?_⟩ (fun b o hb=>?_) hg0.gmu (fun i g e hi=>?_) (fun b o u e=>?_) (fun g p e=>?_)⟩
  ·rcases holdc b hb with h' | h'
   ·exact (hold0 b h').2
   ·exact holdm b h'
  ·exact h3.defers.1
  ·obtain ⟨q1,q2⟩:=hg0.defers.2 l0 e
   obtain ⟨r0,q2⟩:=q2
   exact ⟨holde l0 q1,r0,(hkW0.block l0 q1).trans q2⟩
  ·rcases holdc b hb with h' | h'
   ·rw [h3.old b o (hold0 b h').2]
    exact hg0.old b o h'
   ·obtain ⟨q1,q2,q3,q4⟩:=hms b h'
    rw [h3.old b o (holdm b h')]
    show Φ b o=Φ0.imm b o
    have e1:Φ b o=none:=by
     cases hh:Φ b o with
     |none=>rfl
     |some u=>have:=RelG.fresh hg0 hh;omega
    have e2:Φ0.imm b o=none:=by
     cases hh:Φ0.imm b o with
     |none=>rfl
     |some u=>have:=(hext b o u hh).2;omega
    rw [e1,e2]
  ·have hSi:Kn σe i∧Kn G (i+o):=by
    rcases hi with hi|hi
    ·obtain ⟨qs,hqs⟩:=Option.ne_none_iff_exists'.1 hi
     obtain ⟨h1,ps',h2,-⟩:=hsub.b i qs hqs
     exact ⟨h1,Kn.ofb h2⟩
    ·obtain ⟨qs,hqs⟩:=Option.ne_none_iff_exists'.1 hi
     obtain ⟨h1,ps',h2,-⟩:=hsub.m i qs hqs
     exact ⟨h1,Kn.ofm h2⟩
   have hkF:Kn (F []) (i+o):=hk2 [] _ (hGL _ hSi.2)
   have hσ:σ.b i≠none∨σ.m i≠none:=by
    rcases hkF.spec with h' | h'
    ·obtain ⟨qs,hqs⟩:=Option.ne_none_iff_exists'.1 h'
     obtain ⟨-,ps',h2,-⟩:=hin.b _ qs hqs
     left;simp only [Nat.add_sub_cancel] at h2;rw [h2];simp
    ·obtain ⟨qs,hqs⟩:=Option.ne_none_iff_exists'.1 h'
     obtain ⟨-,ps',h2,-⟩:=hin.m _ qs hqs
     right;simp only [Nat.add_sub_cancel] at h2;rw [h2];simp
   have h5:μ i=some g:=hg0.kmu i g e hσ
   have h6:μ1 (i+o)=some g:=by
    rw [←hμ1]
    show (if _ then _ else _)=_
    rw [if_pos hkF,Nat.add_sub_cancel];exact h5
   show (if Kn σe i then μ3 (i+o) else none)=some g
   rw [if_pos hSi.1]
   exact h3.kmu (i+o) g h6 hSi.2.spec
  ·have h':=hext b o u e
   exact ⟨(h3.ext b o u h'.1).1,Nat.lt_of_lt_of_le h'.2 (Nat.le_trans hWw hwW)⟩
  ·have h' : ∃q,ω3 g=some q:=by
    have h1:=h4.mine g p e
    have h2:=h4.lt g p e
    rcases h1 with h1|h1
    ·simp at h1 h2;omega
    ·exact h1
   obtain ⟨q,hq⟩:=h'
   have hgl:g≠l:=by rintro rfl;exact h3l q hq
   rcases h3.mine g q hq with h1|h1
   ·exact .inl h1
   ·rcases h1 with ⟨p',hp'⟩|h1
    ·obtain ⟨⟨q',hq'⟩,-,hlt'⟩:=hω g p' hp'
     refine .inr ⟨hg0.mine g q' hq',Nat.lt_of_lt_of_le hlt' hwW,fun hm=>?_⟩
     have:=(hms g hm).1;omega
    ·exact absurd h1 hgl
 cases κ with
 |some xs=>
  obtain ⟨hip,hlr,hcj⟩:=hJ2
  obtain ⟨σe,h1,h2⟩:=done xs (hS xs rfl) hip
  have hend:=run_endLoop (P:=P) hlr (by rw [hrec];simp)
  rw [hrec] at hend
  obtain ⟨Φe,We,h3,h4⟩:=back (F xs) σe { rec .ready none with state:=.exhausted } (fun i hi=>hk1 xs i hi) h1 ⟨_,hlr⟩ hcj
  rw [hrec] at h4
  exact ⟨none,_,hend,σe,Φe,We,h2,h3,h4⟩
 |none=>
  obtain ⟨c,G,σe,⟨h1,h2,h3⟩,hlr,hcj⟩:=hJ2
  have hend:=run_endLoop (P:=P) hlr (by rw [hrec];simp)
  rw [hrec] at hend
  obtain ⟨Φe,We,h4,h5⟩:=back G σe { rec .done (some c) with state:=.exhausted } h1 h2 ⟨_,hlr⟩ hcj
  rw [hrec] at h5
  refine ⟨some c,_,hend,?_⟩
  simp only
  cases c with
  |ret=>exact wpIn_ret ⟨σe,Φe,We,h3,h4,h5⟩
  |exit i=>exact wpIn_exit ⟨σe,Φe,We,h3,h4,h5⟩
  |goto i=>exact wpIn_goto ⟨σe,Φe,We,h3,h4,h5⟩
  |_=>exact h3.elim
end
end Go.Proofs.YtoamkpgaaanafaaGreat
