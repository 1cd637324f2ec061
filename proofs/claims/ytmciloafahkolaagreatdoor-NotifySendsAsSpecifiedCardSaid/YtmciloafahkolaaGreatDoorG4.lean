/- Out of: PwN, PwO, Opens, PlainA, Wire4, Wire5, Nz, Tab, PwU, PwV, PwW, PwX, PwIt, PwAo, PwY, PwZ, PwZ2, PwZ3, PwZ4, PwZ5, PwZ6, PlainT, PwCut. -/
import Derived.Deep.Slices
import Derived.Lib.LaidU8
import Derived.LaidMore
import Derived.LaidLaws
import Derived.Stop.Joined
import Derived.MakeChecks
import Derived.Lib.Walk
import Derived.Lib.SliceRun
import Derived.Lib.JoinLaws
import Derived.Lib.AppendZerosOnto
import Derived.Lib.Overlaps
import Derived.Laws.Externs
import Derived.Laws.IdiomCopy
import Derived.Laws.NewBlocks
import Derived.Deep.RegionLaw
import Derived.RangeFuncCalls
import GoSem.Step
import Derived.Test.YtmciloafahkolaaGreatDoorG2
namespace Go.Proofs.YtmciloafahkolaaGreatDoor
set_option maxRecDepth 100000
set_option maxHeartbeats 40000000
set_option linter.unusedSimpArgs false
set_option linter.unusedVariables false
set_option linter.unnecessarySimpa false
section
open Go.RowKit
variable {P:Program} {T:Tab} {σ:PS} {ops:Array Oper} {base:Nat} {ok:Nat→Nat→Bool}
def X3o (s:Option Nat) (t:Nat→PV):Nat→PV:=match s with|some s=>upd t s (t s).bare|none=>t
def putO (d:Option Nat) (v:PV) (t:Nat→PV):Nat→PV:=match d with|some d=>upd t d v|none=>t
def setO {α:Type} (b:List (Nat×α)) (m:Nat→Option α):Nat→Option α:=b.foldl (fun b x=>upd b x.1 (some x.2)) m
theorem X3l {α:Type} (x:Nat×α) (l:List (Nat×α)) (m:Nat→Option α):setO (x :: l) m=setO l (upd m x.1 (some x.2)):=rfl
theorem Xgl {α:Type} {j:Nat} : ∀(l:List (Nat×α)) (m:Nat→Option α),(∀i cs,(i,cs)∈l→i≠j)→setO l m j=m j
 | [],_,_=>rfl
 |x :: l,m,h=>by
  rw [X3l,Xgl l _ (fun i cs hi=>h i cs (List.mem_cons_of_mem _ hi))]
  exact Xcb _ _ (fun e=>h x.1 x.2 List.mem_cons_self e.symm)
theorem X8n {α:Type} {j:Nat} : ∀(l:List (Nat×α)) (m:Nat→Option α),(m j≠none∨∃cs,(j,cs)∈l)→setO l m j≠none
 | [],m,h=>by
  rcases h with h|⟨cs,h⟩
  ·exact h
  ·cases h
 |x :: l,m,h=>by
  rw [X3l]
  refine X8n l _ ?_
  by_cases e:j=x.1
  ·left;subst e;simp [X8]
  ·rcases h with h|⟨cs,h⟩
   ·left;rw [Xcb _ _ e];exact h
   ·right
    rcases List.mem_cons.1 h with h|h
    ·exact absurd (by rw [←h]) e
    ·exact ⟨cs,h⟩
theorem Xo8 {α:Type} {i:Nat} {v:Option α} : ∀(l:List (Nat×α)) (m:Nat→Option α),(∀j cs,(j,cs)∈l→j≠i)→setO l (upd m i v)=upd (setO l m) i v
 | [],_,_=>rfl
 |x :: l,m,h=>by
  rw [X3l,X3l,←Xo8 l _ (fun j cs hj=>h j cs (List.mem_cons_of_mem _ hj)),X81 _ _ _ (h x.1 x.2 List.mem_cons_self).symm]
theorem Xcw {α:Type} : ∀(l l' : List (Nat×α)) (m:Nat→Option α),(∀i c j e,(i,c)∈l→(j,e)∈l'→i≠j)→setO l' (setO l m)=setO l (setO l' m)
 | [],_,_,_=>rfl
 |x :: l,l',m,h=>by
  rw [X3l,X3l,Xcw l l' _ (fun i c j e hi hj=>h i c j e (List.mem_cons_of_mem _ hi) hj),Xo8 l' m (fun j cs hj=>(h x.1 x.2 j cs List.mem_cons_self hj).symm)]
theorem Y7o (σ:PS) (d:Option Nat) (E:Eff):σ.app d E=⟨putO d E.v (X3o E.dis σ.t),setO E.bx σ.b,setO E.mx σ.m⟩:=by
 obtain ⟨v,b,s,mx⟩:=E
 cases d<;>cases s<;>rfl
theorem Xlp (s u:Option Nat) (h:∀a b,s=some a→u=some b→a≠b) (t:Nat→PV):X3o s (X3o u t)=X3o u (X3o s t):=by
 cases s with
 |none=>rfl
 |some a=>cases u with
  |none=>rfl
  |some b=>
   have:=h a b rfl rfl
   simp only [X3o]
   rw [Xcb t _ this,Xcb t _ this.symm]
   exact X81 _ _ _ this.symm
theorem Xhj (s d:Option Nat) (v:PV) (h:∀a b,s=some a→d=some b→a≠b) (t:Nat→PV):X3o s (putO d v t)=putO d v (X3o s t):=by
 cases s with
 |none=>rfl
 |some a=>cases d with
  |none=>rfl
  |some b=>
   have:=h a b rfl rfl
   simp only [X3o,putO]
   rw [Xcb t _ this]
   exact X81 _ _ _ this.symm
theorem Y4k (d e:Option Nat) (v u:PV) (h:∀a b,d=some a→e=some b→a≠b) (t:Nat→PV):putO d v (putO e u t)=putO e u (putO d v t):=by
 cases d with
 |none=>rfl
 |some a=>cases e with
  |none=>rfl
  |some b=>exact X81 _ _ _ (h a b rfl rfl).symm
theorem Xzj (σ:PS) (d1 d2:Option Nat) (E1 E2:Eff) (hd:∀a b,d1=some a→d2=some b→a≠b) (h12:∀a s,d1=some a→E2.dis=some s→s≠a) (h21:∀a s,d2=some a→E1.dis=some s→s≠a)
  (hs:∀s t,E1.dis=some s→E2.dis=some t→s≠t) (hb:∀i c j e,(i,c)∈E1.bx→(j,e)∈E2.bx→i≠j) (hm:∀i c j e,(i,c)∈E1.mx→(j,e)∈E2.mx→i≠j):(σ.app d1 E1).app d2 E2=(σ.app d2 E2).app d1 E1:=by
 simp only [Y7o]
 have e1:putO d2 E2.v (X3o E2.dis (putO d1 E1.v (X3o E1.dis σ.t)))=putO d1 E1.v (X3o E1.dis (putO d2 E2.v (X3o E2.dis σ.t))):=by
  rw [Xhj E2.dis d1 _ (fun a b ea eb=>h12 b a eb ea),Xlp E2.dis E1.dis (fun a b ea eb=>(hs b a eb ea).symm),Y4k d2 d1 _ _ (fun a b ea eb=>(hd b a eb ea).symm),Xhj E1.dis d2 _ (fun a b ea eb=>h21 b a eb ea)]
 have e2:setO E2.bx (setO E1.bx σ.b)=setO E1.bx (setO E2.bx σ.b):=Xcw _ _ _ hb
 have e3:setO E2.mx (setO E1.mx σ.m)=setO E1.mx (setO E2.mx σ.m):=Xcw _ _ _ hm
 rw [e1,e2,e3]
theorem Xpg {d:Option Nat} {E:Eff} {t:Nat} (h:∀a,d=some a→t≠a):((σ.app d E).t t).bare=(σ.t t).bare∧(E.dis≠some t→(σ.app d E).t t=σ.t t):=by
 obtain ⟨v,b,s,mx⟩:=E
 cases d with
 |none=>cases s with
  |none=>exact ⟨rfl,fun _=>rfl⟩
  |some s=>
   simp only [PS.app,X8]
   by_cases e:t=s
   ·subst e;simp [PV.bare_bare]
   ·simp [e]
 |some a=>
  have:=h a rfl
  cases s with
  |none=>simp [PS.app,X8,this]
  |some s=>
   simp only [PS.app,X8,if_neg this]
   by_cases e:t=s
   ·subst e;simp [PV.bare_bare]
   ·simp [e]
theorem Xr5 {d:Option Nat} {E:Eff} (j:Nat) (h:∀i cs,(i,cs)∈E.bx→i≠j):(σ.app d E).b j=σ.b j:=by
 exact Xgl _ _ h
theorem Y1s {d:Option Nat} {E:Eff} (j:Nat) (h:∀i X,(i,X)∈E.mx→i≠j):(σ.app d E).m j=σ.m j:=by
 exact Xgl _ _ h
theorem Xua {d:Option Nat} {E:Eff} {j:Nat} {cs:List PV} (h:E.bx = [(j,cs)]):(σ.app d E).b j=some cs:=by
 obtain ⟨v,b,s,mx⟩:=E
 simp only at h
 subst h
 exact Xxy _ _ _
theorem Xx4 {d:Option Nat} {E:Eff} {j:Nat} (h:(σ.app d E).freeB j=true):σ.freeB j=true:=by
 obtain ⟨h1,h2⟩:=PS.freeB_spec h
 refine PS.freeB_iff.2 ⟨?_,?_⟩
 ·cases hb:σ.b j with
  |none=>rfl
  |some bs=>exact absurd h1 (X8n E.bx σ.b (.inl (by rw [hb];simp)))
 ·cases hb:σ.m j with
  |none=>rfl
  |some bs=>exact absurd h2 (X8n E.mx σ.m (.inl (by rw [hb];simp)))
theorem Xq3 {o:Oper} {hd:Bool} (hh:Xdn o.op=true):Kb hd o=true∧mapU o=true:=by
 unfold Kb mapU
 cases hop:o.op with
 |call c=>
  obtain ⟨callee,cargs,ct⟩:=c
  rw [hop] at hh
  cases callee with
  |value x=>simp [hh]
  |_=>simp [Xdn] at hh
 |_=>rw [hop] at hh;simp [Xdn] at hh
theorem Xl6 {o:Oper} {hd:Bool} (hh:X0w o.op=true):Kb hd o=true∧mapU o=true:=by
 unfold Kb mapU
 cases hop:o.op with
 |call c=>
  obtain ⟨callee,cargs,ct⟩:=c
  rw [hop] at hh
  cases callee with
  |value x=>simp [hh]
  |_=>simp [X0w] at hh
 |_=>rw [hop] at hh;simp [X0w] at hh
theorem Xk2 {i:Nat} {o:Oper} {σ' : PS} {E:Eff} (h:May P T ops base ok i o σ E) (hev:∀t∈X1j o.op.operands.toList,(σ'.t t).bare=(σ.t t).bare) (hgt:∀t∈X6u ops o,(σ'.t t).bare=(σ.t t).bare) (htk:∀s∈Kr (Yr ops o.dst) o,σ'.t s=σ.t s)
  (hmm:mapU o=true→∀j X,(σ.only (ok i)).m j=some X→(σ'.only (ok i)).m j=some X) (hb:Kb (Yr ops o.dst) o=true→∀j bs,(σ.only (ok i)).b j=some bs→(σ'.only (ok i)).b j=some bs) (hbl:X0i o=true→∀j bs,(σ.only (ok i)).b j=some bs→∃bs',(σ'.only (ok i)).b j=some bs'∧bs'.map PV.bare=bs.map PV.bare)
  (hid:∀j,(j=base+i∨(X0w o.op=true∧ok i j=true))→σ.freeB j=true→σ'.freeB j=true) (hnt:∃j id,ok j id=false):May P T ops base ok i o σ' E:=by
 have hg:Xk ops σ' o=Xk ops σ o:=by
  unfold Xk
  cases hgd:o.guard with
  |none=>rfl
  |some x=>
   obtain ⟨j,want⟩:=x
   simp only
   cases hd:(ops.toList[j]?).bind (·.dst) with
   |none=>rfl
   |some d=>simp only;rw [hgt d (by simp only [X6u,hgd,hd];simp)]
 have hpc:X8k σ' o.op=X8k σ o.op:=by
  unfold X8k
  cases hop:o.op with
  |call c=>
   obtain ⟨callee,cargs,ct⟩:=c
   cases callee with
   |value x=>
    rw [hop] at hev
    have ev:∀y,y=x∨y∈cargs.toList→pev σ' y=pev σ y:=by
     intro y hy
     cases y with
     |tmp t=>
      refine hev t ?_
      simp only [X1j,List.mem_filterMap]
      refine ⟨.tmp t,?_,rfl⟩
      simp only [Op.operands,Call.operands,Array.toList_append,List.mem_append]
      rcases hy with hy|hy
      ·left;simp [hy]
      ·right;exact hy
     |_=>rfl
    simp only
    rw [ev x (.inl rfl)]
    have e1:cargs.toList.map (pev σ')=cargs.toList.map (pev σ):=List.map_congr_left (fun y hy=>ev y (.inr hy))
    rw [e1]
   |_=>rfl
  |_=>rfl
 rcases h with ⟨h1,h2⟩|⟨h1,h2⟩
 ·exact .inl ⟨by rw [hg];exact h1,h2⟩
 ·refine .inr ⟨by rw [hg];exact h1,?_⟩
  rcases h2 with ⟨h2,h3⟩|⟨f,args,r,d,h2,h3,h4,h5⟩|⟨f,args,given,gm,r,res,rm,k1,k2,k3,k4,k5,k6,k7⟩|⟨hall,-⟩|⟨f,args,given,gm,r,k1,k2,k3,k4,k5,k6,k7⟩|⟨c,x,f,p,s,n,k,cs,Et,given,gm,r,res,rm,u1,u2,u3,u4,u5,u6,u7,u8,u9,u10,u11,u12⟩
  rotate_left 3
  ·obtain ⟨j,id,e⟩:=hnt;rw [hall j id] at e;cases e
  ·right;right;right;right;left
   have hh:Xdn o.op=true:=by
    rcases k7 with k7|k7
    ·exact k7
    ·obtain ⟨j,id,e⟩:=hnt;rw [k7 j id] at e;cases e
   have hst:=Xq3 (hd:=Yr ops o.dst) hh
   refine ⟨f,args,given,gm,r,by rw [hpc];exact k1,k2,AllB.of (fun x hx=>?_),AllM.of (fun x hx=>?_),k5,k6, .inl hh⟩
   ·obtain ⟨q1,q2⟩:=k3.mem x hx
    refine ⟨q1,?_⟩
    have:=hb hst.1 x.1 x.2 (by simp only [PS.only,q1,if_true];exact q2)
    simpa only [PS.only,q1,if_true] using this
   ·obtain ⟨q1,q2⟩:=k4.mem x hx
    refine ⟨q1,?_⟩
    have:=hmm hst.2 x.1 x.2 (by simp only [PS.only,q1,if_true];exact q2)
    simpa only [PS.only,q1,if_true] using this
  ·right;right;right;right;right
   obtain ⟨hh,hts⟩:X0w o.op=true∧s∈Kr (Yr ops o.dst) o:=by
    rcases u12 with k7|k7
    ·exact k7
    ·obtain ⟨j,id,e⟩:=hnt;rw [k7 j id] at e;cases e
   have hst:=Xl6 (hd:=Yr ops o.dst) hh
   have ev:∀y,y=x∨y∈c.args.toList→pev σ' y=pev σ y:=by
    intro y hy
    cases y with
    |tmp t=>
     refine hev t ?_
     rw [u1]
     simp only [X1j,List.mem_filterMap]
     refine ⟨.tmp t,?_,rfl⟩
     simp only [Op.operands,Call.operands,Array.toList_append,List.mem_append]
     rcases hy with hy|hy
     ·left;rw [u2];simp [hy]
     ·right;exact hy
    |_=>rfl
   have e1:c.args.toList.map (pev σ')=c.args.toList.map (pev σ):=List.map_congr_left (fun y hy=>ev y (.inr hy))
   refine ⟨c,x,f,p,s,n,k,cs,Et,given,gm,r,res,rm,u1,u2,by rw [ev x (.inl rfl)];exact u3,u4,by rw [htk s hts];exact u5,u6,by rw [e1];exact u7,AllB.of (fun x hx=>?_),AllM.of (fun x hx=>?_),?_,u11, .inl ⟨hh,hts⟩⟩
   ·obtain ⟨q1,q2⟩:=u8.mem x hx
    refine ⟨q1,?_⟩
    have:=hb hst.1 x.1 x.2 (by simp only [PS.only,q1,if_true];exact q2)
    simpa only [PS.only,q1,if_true] using this
   ·obtain ⟨q1,q2⟩:=u9.mem x hx
    refine ⟨q1,?_⟩
    have:=hmm hst.2 x.1 x.2 (by simp only [PS.only,q1,if_true];exact q2)
    simpa only [PS.only,q1,if_true] using this
   ·simp only [Xh2,Bool.and_eq_true] at u10 ⊢
    refine ⟨u10.1,List.all_eq_true.2 fun j hj=>?_⟩
    have:=List.all_eq_true.1 u10.2 j hj
    simp only [Bool.or_eq_true,Bool.and_eq_true] at this ⊢
    rcases this with h|⟨h1,h2,h3⟩
    ·exact .inl h
    ·exact .inr ⟨h1,h2,hid j (.inr ⟨hh,h1⟩) h3⟩
  ·left
   have hf:=hid _ (.inl rfl) h3
   have hfo:(σ'.only (ok i)).freeB (base+i)=true:=by
    obtain ⟨q1,q2⟩:=PS.freeB_spec hf
    refine PS.freeB_iff.2 ⟨?_,?_⟩<;>simp only [PS.only,q1,q2]<;>split<;>rfl
   refine ⟨?_,hf⟩
   rcases h2 with h2|h2
   ·exact .inl (Xbt (σ:=σ.only (ok i)) h2 hev htk hmm hb hbl hfo)
   ·exact .inr (Xce (σ:=σ.only (ok i)) h2 hev htk hmm hb hbl hfo)
  ·right;left
   exact ⟨f,args,r,d,h2,by rw [hpc];exact h3,h4,h5⟩
  ·right;right;left
   have hh:X0w o.op=true:=by
    rcases k7 with k7|k7
    ·exact k7
    ·obtain ⟨j,id,e⟩:=hnt;rw [k7 j id] at e;cases e
   have hst:Kb (Yr ops o.dst) o=true∧mapU o=true:=by
    unfold Kb mapU
    cases hop:o.op with
    |call c=>
     obtain ⟨callee,cargs,ct⟩:=c
     rw [hop] at hh
     cases callee with
     |value x=>simp [hh]
     |_=>simp [X0w] at hh
    |_=>rw [hop] at hh;simp [X0w] at hh
   refine ⟨f,args,given,gm,r,res,rm,by rw [hpc];exact k1,k2,AllB.of (fun x hx=>?_),AllM.of (fun x hx=>?_),?_,k6, .inl hh⟩
   ·obtain ⟨q1,q2⟩:=k3.mem x hx
    refine ⟨q1,?_⟩
    have:=hb hst.1 x.1 x.2 (by simp only [PS.only,q1,if_true];exact q2)
    simpa only [PS.only,q1,if_true] using this
   ·obtain ⟨q1,q2⟩:=k4.mem x hx
    refine ⟨q1,?_⟩
    have:=hmm hst.2 x.1 x.2 (by simp only [PS.only,q1,if_true];exact q2)
    simpa only [PS.only,q1,if_true] using this
   ·simp only [Xh2,Bool.and_eq_true] at k5 ⊢
    refine ⟨k5.1,List.all_eq_true.2 fun j hj=>?_⟩
    have:=List.all_eq_true.1 k5.2 j hj
    simp only [Bool.or_eq_true,Bool.and_eq_true] at this ⊢
    rcases this with h|⟨h1,h2,h3⟩
    ·exact .inl h
    ·exact .inr ⟨h1,h2,hid j (.inr ⟨hh,h1⟩) h3⟩
theorem X22 {o:Oper} {hd:Bool} (hh:X0w o.op=true):Kb hd o=true∧X0t o=true∧X0i o=true∧mapU o=true∧mapW hd o=true:=by
 unfold Kb X0t X0i mapU mapW
 cases hop:o.op with
 |call c=>
  obtain ⟨callee,cargs,ct⟩:=c
  rw [hop] at hh
  cases callee with
  |value x=>simp [hh]
  |_=>simp [X0w] at hh
 |_=>rw [hop] at hh;simp [X0w] at hh
theorem Xgd {i:Nat} {o:Oper} {E:Eff} (h:May P T ops base ok i o σ E) (hnt:∃j id,ok j id=false):(∀s,E.dis=some s→s∈Kr (Yr ops o.dst) o)∧(∀j cs,(j,cs)∈E.bx→(j=base+i∧σ.freeB (base+i)=true)∨(Kb (Yr ops o.dst) o=true∧ok i j=true∧(X0w o.op=true∨σ.b j≠none))) ∧
  (∀j X,(j,X)∈E.mx→(j=base+i∧σ.freeB (base+i)=true)∨(mapW (Yr ops o.dst) o=true∧ok i j=true∧(X0w o.op=true∨σ.m j≠none))):=by
 have only_b:∀j bs,(σ.only (ok i)).b j=some bs→ok i j=true∧σ.b j=some bs:=by
  intro j bs e
  simp only [PS.only] at e
  split at e
  ·rename_i hk;exact ⟨hk,e⟩
  ·cases e
 have only_m:∀j X,(σ.only (ok i)).m j=some X→ok i j=true∧σ.m j=some X:=by
  intro j bs e
  simp only [PS.only] at e
  split at e
  ·rename_i hk;exact ⟨hk,e⟩
  ·cases e
 rcases h with ⟨-,rfl⟩|⟨-,⟨h1|h1,h2⟩|⟨f,args,r,d,-,-,-,rfl⟩|⟨f,args,given,gm,r,res,rm,k1,k2,k3,k4,k5,rfl,k7⟩|⟨hall,-⟩|⟨f,args,given,gm,r,k1,k2,k3,k4,k5,rfl,k7⟩|⟨c,x,f,p,s,n,k,cs,Et,given,gm,r,res,rm,-,-,-,-,-,-,-,k3,k4,k5,rfl,k7⟩⟩
 rotate_left 5
 ·obtain ⟨j,id,e⟩:=hnt;rw [hall j id] at e;cases e
 ·exact ⟨fun s e=>(by cases e),fun j cs e=>(by cases e),fun j cs e=>(by cases e)⟩
 ·obtain ⟨hh,hts⟩:X0w o.op=true∧s∈Kr (Yr ops o.dst) o:=by
   rcases k7 with k7|k7
   ·exact k7
   ·obtain ⟨j,id,e⟩:=hnt;rw [k7 j id] at e;cases e
  obtain ⟨n1,n2,n3,n4⟩:=X3r k5
  have okr:∀j,j∈res.map (·.1) ++ rm.map (·.1)→ok i j=true:=by
   intro j hj
   rcases n4 j hj with h|⟨h,-⟩
   ·rcases List.mem_append.1 h with h|h
    ·obtain ⟨x,hx,rfl⟩:=List.mem_map.1 h;exact (k3.mem x hx).1
    ·obtain ⟨x,hx,rfl⟩:=List.mem_map.1 h;exact (k4.mem x hx).1
   ·exact h
  obtain ⟨f1,f2,f3,f4,f5⟩:=X22 (hd:=Yr ops o.dst) hh
  refine ⟨fun s' e=>(by cases e;exact hts),fun j cs e=>.inr ⟨f1,okr j (List.mem_append.2 (.inl (List.mem_map.2 ⟨_,e,rfl⟩))), .inl hh⟩,fun j X e=>.inr ⟨f5,okr j (List.mem_append.2 (.inr (List.mem_map.2 ⟨_,e,rfl⟩))), .inl hh⟩⟩
 ·exact ⟨fun s e=>(by cases e),fun j cs e=>(by cases e),fun j cs e=>(by cases e)⟩
 ·obtain ⟨q1,q2⟩:=Xq4 h1
  refine ⟨q1,fun j cs e=>?_,fun j X e=>(by rw [Xxs h1] at e;cases e)⟩
  rcases q2 j cs e with k|⟨k3,bs,k4⟩
  ·exact .inl ⟨k,h2⟩
  ·obtain ⟨k5,k6⟩:=only_b j bs k4
   exact .inr ⟨k3,k5, .inr (by rw [k6];simp)⟩
 ·obtain ⟨q1,q2,q3⟩:=Xeq h1
  refine ⟨q1,fun j cs e=>?_,fun j X e=>?_⟩
  ·obtain ⟨k3,-,bs,k4⟩:=q2 j cs e
   obtain ⟨k5,k6⟩:=only_b j bs k4
   exact .inr ⟨k3,k5, .inr (by rw [k6];simp)⟩
  ·rcases q3 j X e with k|⟨k3,bs,k4⟩
   ·exact .inl ⟨k,h2⟩
   ·obtain ⟨k5,k6⟩:=only_m j bs k4
    exact .inr ⟨k3,k5, .inr (by rw [k6];simp)⟩
 ·exact ⟨fun s e=>(by cases e),fun j cs e=>(by cases e),fun j cs e=>(by cases e)⟩
 ·have hh:X0w o.op=true:=by
   rcases k7 with k7|k7
   ·exact k7
   ·obtain ⟨j,id,e⟩:=hnt;rw [k7 j id] at e;cases e
  obtain ⟨n1,n2,n3,n4⟩:=X3r k5
  have okr:∀j,j∈res.map (·.1) ++ rm.map (·.1)→ok i j=true:=by
   intro j hj
   rcases n4 j hj with h|⟨h,-⟩
   ·rcases List.mem_append.1 h with h|h
    ·obtain ⟨x,hx,rfl⟩:=List.mem_map.1 h;exact (k3.mem x hx).1
    ·obtain ⟨x,hx,rfl⟩:=List.mem_map.1 h;exact (k4.mem x hx).1
   ·exact h
  obtain ⟨f1,f2,f3,f4,f5⟩:=X22 (hd:=Yr ops o.dst) hh
  refine ⟨fun s e=>(by cases e),fun j cs e=>.inr ⟨f1,okr j (List.mem_append.2 (.inl (List.mem_map.2 ⟨_,e,rfl⟩))), .inl hh⟩,fun j X e=>.inr ⟨f5,okr j (List.mem_append.2 (.inr (List.mem_map.2 ⟨_,e,rfl⟩))), .inl hh⟩⟩
theorem Xji {i:Nat} {o:Oper} {E:Eff} (h:May P T ops base ok i o σ E) (hnt:∃j id,ok j id=false) (hs:Kb (Yr ops o.dst) o=true) (hn:X0t o=false):∀j cs,(j,cs)∈E.bx→E.bx = [(j,cs)]∧∃bs,σ.b j=some bs∧cs.map PV.bare=bs.map PV.bare:=by
 rcases h with ⟨-,rfl⟩|⟨-,⟨h1|h1,h2⟩|⟨f,args,r,d,-,-,-,rfl⟩|⟨f,args,given,gm,r,res,rm,k1,k2,k3,k4,k5,rfl,k7⟩|⟨hall,-⟩|⟨f,args,given,gm,r,k1,k2,k3,k4,k5,rfl,k7⟩|⟨c,x,f,p,s,n,k,cs,Et,given,gm,r,res,rm,-,-,-,-,-,-,-,k3,k4,k5,rfl,k7⟩⟩
 rotate_left 5
 ·obtain ⟨j,id,e⟩:=hnt;rw [hall j id] at e;cases e
 ·exact fun j cs e=>(by cases e)
 ·have hh:X0w o.op=true:=by
   rcases k7 with k7|k7
   ·exact k7.1
   ·obtain ⟨j,id,e⟩:=hnt;rw [k7 j id] at e;cases e
  have:=(X22 (hd:=Yr ops o.dst) hh).2.1
  rw [hn] at this;cases this
 ·exact fun j cs e=>(by cases e)
 ·intro j cs e
  obtain ⟨k0,bs,k1,k2⟩:=Xkd h1 hs hn j cs e
  refine ⟨k0,bs,?_,k2⟩
  simp only [PS.only] at k1
  split at k1
  ·exact k1
  ·cases k1
 ·intro j cs e
  have:=((Xeq h1).2.1 j cs e).2.1
  rw [hn] at this;cases this
 ·exact fun j cs e=>(by cases e)
 ·have hh:X0w o.op=true:=by
   rcases k7 with k7|k7
   ·exact k7
   ·obtain ⟨j,id,e⟩:=hnt;rw [k7 j id] at e;cases e
  have:=(X22 (hd:=Yr ops o.dst) hh).2.1
  rw [hn] at this;cases this
theorem Xke {f:Nat} {l:List Operand} {t:Nat} (h:Xbh f l=some t):(.tmp t:Operand)∈l:=by
 unfold Xbh at h
 split at h
 ·split at h
  ·rename_i hl;cases h;exact List.mem_of_getElem? hl
  ·cases h
 ·cases h
theorem X86 {hd:Bool} {o:Oper} {s:Nat} (h:s∈Kr hd o):s∈X1j o.op.operands.toList:=by
 obtain ⟨dst,op,ty,pos,after,guard⟩:=o
 simp only [Kr] at h
 simp only [X1j,List.mem_filterMap]
 refine ⟨.tmp s,?_,rfl⟩
 split at h
 ·simp at h;subst h;simp [Op.operands]
 ·simp at h;obtain ⟨-,rfl⟩:=h;simp [Op.operands]
 ·simp at h;subst h;simp [Op.operands]
 ·simp at h;subst h;simp [Op.operands]
 ·simp at h;subst h;simp [Op.operands]
 ·split at h
  ·rename_i hc s' r ha
   simp at h
   subst h
   simp only [Op.operands,Call.operands,Array.toList_append,List.mem_append]
   right
   rw [ha];simp
  ·split at h
   ·rename_i s' ht
    simp at h
    subst h
    simp only [Op.operands,Call.operands,Array.toList_append,List.mem_append]
    right
    exact Xke ht
   ·cases h
  ·cases h
 ·cases h
structure Ind (ops:Array Oper) (Sep:Prop) (y x:Oper):Prop where
 d1:∀a b,y.dst=some a→x.dst=some b→a≠b
 d2:∀a,y.dst=some a→a∉X1j x.op.operands.toList∧a∉X6u ops x
 d3:∀b,x.dst=some b→b∉X1j y.op.operands.toList∧b∉X6u ops y
 tk:∀s∈Kr (Yr ops y.dst) y,s∉Kr (Yr ops x.dst) x
 s1:X0t y=true→X0i x=true→Sep
 s2:X0t x=true→X0i y=true→Sep
 s3:Kb (Yr ops y.dst) y=true→Kb (Yr ops x.dst) x=true→Sep
 m1:mapW (Yr ops y.dst) y=true→mapU x=true→False
 m2:mapW (Yr ops x.dst) x=true→mapU y=true→False
theorem Xsk {cl:List (List Nat)} {iy ix:Nat} {y x:Oper} (h:indB ops cl iy ix y x=true):Ind ops (sepB ops.toList cl iy ix y x=true) y x:=by
 simp only [indB,Bool.and_eq_true,Bool.not_eq_true',Bool.or_eq_true (_ && _) (sepB _ _ _ _ _ _)] at h
 obtain ⟨⟨⟨⟨⟨h1,h2⟩,h3⟩,h4⟩,h6⟩,h5⟩:=h
 refine ⟨?_,?_,?_,?_,?_,?_,?_,?_,?_⟩
 ·intro a b ea eb
  rw [ea,eb] at h1
  simpa using h1
 ·intro a ea
  rw [ea] at h2
  simpa using h2
 ·intro a ea
  rw [ea] at h3
  simpa using h3
 ·intro s hs
  have:=List.all_eq_true.1 h4 s hs
  simpa using this
 ·intro e1 e2
  rcases h5 with h5|h5
  ·simp only [e1,e2,Bool.and_eq_true,Bool.not_eq_true',Bool.and_true,Bool.true_and] at h5
   simp at h5
  ·exact h5
 ·intro e1 e2
  rcases h5 with h5|h5
  ·simp only [e1,e2,Bool.and_eq_true,Bool.not_eq_true',Bool.and_true,Bool.true_and] at h5
   simp at h5
  ·exact h5
 ·intro e1 e2
  rcases h5 with h5|h5
  ·simp only [e1,e2,Bool.and_eq_true,Bool.not_eq_true',Bool.and_true,Bool.true_and] at h5
   simp at h5
  ·exact h5
 ·intro e1 e2
  have:=h6.1
  rw [e1,e2] at this;cases this
 ·intro e1 e2
  have:=h6.2
  rw [e1,e2] at this;cases this
theorem PWop.swap {Sep:Prop} {iy ix:Nat} {y x:Oper} (hI:Ind ops Sep y x) (hsep:Sep→∀j,ok iy j=true→ok ix j=true→False) (hne:iy≠ix) (hox:ok ix (base+iy)=false) (hoy:ok iy (base+ix)=false) {K:PS→Prop} (h:PWop P T ops base ok iy y (PWop P T ops base ok ix x K) σ):PWop P T ops base ok ix x (PWop P T ops base ok iy y K) σ:=by
 have hnt:∃j id,ok j id=false:=⟨ix,_,hox⟩
 obtain ⟨Ey,hy,Ex,hx,hk⟩:=h
 obtain ⟨i1,i2,i3,i4,i5,i6,i7,i8,i9⟩:=hI
 obtain ⟨fy1,fy2,fy3⟩:=Xgd hy hnt
 have hx' : May P T ops base ok ix x σ Ex:=by
  refine Xk2 hx (fun t ht=>?_) (fun t ht=>?_) (fun s hs=>?_) (fun hu j X hj=>?_) (fun hu j bs hj=>?_) (fun hu j bs hj=>?_) (fun j _ h0=>Xx4 h0) hnt
  ·exact ((Xpg (σ:=σ) (E:=Ey) (fun a ea e=>(i2 a ea).1 (e ▸ ht))).1).symm
  ·exact ((Xpg (σ:=σ) (E:=Ey) (fun a ea e=>(i2 a ea).2 (e ▸ ht))).1).symm
  ·exact ((Xpg (σ:=σ) (E:=Ey) (fun a ea e=>(i2 a ea).1 (e ▸ X86 hs))).2 (fun e=>i4 s (fy1 s e) hs)).symm
  ·simp only [PS.only] at hj ⊢
   split at hj
   ·rename_i hokj
    rw [if_pos hokj,←Y1s (σ:=σ) (d:=y.dst) (E:=Ey) j ?_]
    ·exact hj
    ·rintro i cs e rfl
     rcases fy3 i cs e with ⟨rfl,-⟩|⟨h1,h9,-⟩
     ·rw [hox] at hokj;cases hokj
     ·exact i8 h1 hu
   ·cases hj
  ·simp only [PS.only] at hj ⊢
   split at hj
   ·rename_i hokj
    rw [if_pos hokj,←Xr5 (σ:=σ) (d:=y.dst) (E:=Ey) j ?_]
    ·exact hj
    ·rintro i cs e rfl
     rcases fy2 i cs e with ⟨rfl,-⟩|⟨h1,h9,-⟩
     ·rw [hox] at hokj;cases hokj
     ·exact hsep (i7 h1 hu) _ h9 hokj
   ·cases hj
  ·simp only [PS.only] at hj ⊢
   split at hj
   ·rename_i hokj
    rw [if_pos hokj]
    by_cases hbx:∃cs,(j,cs)∈Ey.bx
    ·obtain ⟨cs,e⟩:=hbx
     rcases fy2 j cs e with ⟨rfl,-⟩|⟨h1,h9,-⟩
     ·rw [hox] at hokj;cases hokj
     ·have hns:X0t y=false:=by
       cases hsb:X0t y with
       |false=>rfl
       |true=>exact (hsep (i5 hsb hu) _ h9 hokj).elim
      obtain ⟨k0,bs0,k1,k2⟩:=Xji hy hnt h1 hns j cs e
      refine ⟨bs0,k1,?_⟩
      rw [Xua k0,Option.some.injEq] at hj
      rw [←hj];exact k2.symm
    ·refine ⟨bs,?_,rfl⟩
     rw [←Xr5 (σ:=σ) (d:=y.dst) (E:=Ey) j (fun i cs e hh=>hbx ⟨cs,hh ▸ e⟩)]
     exact hj
   ·cases hj
 obtain ⟨-,fx3,fx4⟩:=Xgd hx' hnt
 have fx1:=(Xgd hx' hnt).1
 have hy' : May P T ops base ok iy y (σ.app x.dst Ex) Ey:=by
  refine Xk2 hy (fun t ht=>?_) (fun t ht=>?_) (fun s hs=>?_) (fun hu j X hj=>?_) (fun hu j bs hj=>?_) (fun hu j bs hj=>?_) (fun j hjj h0=>?_) hnt
  ·exact (Xpg (σ:=σ) (E:=Ex) (fun a ea e=>(i3 a ea).1 (e ▸ ht))).1
  ·exact (Xpg (σ:=σ) (E:=Ex) (fun a ea e=>(i3 a ea).2 (e ▸ ht))).1
  ·exact (Xpg (σ:=σ) (E:=Ex) (fun a ea e=>(i3 a ea).1 (e ▸ X86 hs))).2 (fun e=>i4 s hs (fx1 s e))
  ·simp only [PS.only] at hj ⊢
   split at hj
   ·rename_i hokj
    rw [if_pos hokj,Y1s (σ:=σ) (d:=x.dst) (E:=Ex) j ?_]
    ·exact hj
    ·rintro i cs e rfl
     rcases fx4 i cs e with ⟨rfl,-⟩|⟨h1,h9,-⟩
     ·rw [hoy] at hokj;cases hokj
     ·exact i9 h1 hu
   ·cases hj
  ·simp only [PS.only] at hj ⊢
   split at hj
   ·rename_i hokj
    rw [if_pos hokj,Xr5 (σ:=σ) (d:=x.dst) (E:=Ex) j ?_]
    ·exact hj
    ·rintro i cs e rfl
     rcases fx3 i cs e with ⟨rfl,-⟩|⟨h1,h9,-⟩
     ·rw [hoy] at hokj;cases hokj
     ·exact hsep (i7 hu h1) _ hokj h9
   ·cases hj
  ·simp only [PS.only] at hj ⊢
   split at hj
   ·rename_i hokj
    rw [if_pos hokj]
    by_cases hbx:∃cs,(j,cs)∈Ex.bx
    ·obtain ⟨cs,e⟩:=hbx
     rcases fx3 j cs e with ⟨rfl,-⟩|⟨h1,h9,-⟩
     ·rw [hoy] at hokj;cases hokj
     ·have hns:X0t x=false:=by
       cases hsb:X0t x with
       |false=>rfl
       |true=>exact (hsep (i6 hsb hu) _ hokj h9).elim
      obtain ⟨k0,bs0,k1,k2⟩:=Xji hx' hnt h1 hns j cs e
      rw [k1] at hj
      simp only [Option.some.injEq] at hj
      subst hj
      exact ⟨cs,Xua k0,k2⟩
    ·refine ⟨bs,?_,rfl⟩
     rw [Xr5 (σ:=σ) (d:=x.dst) (E:=Ex) j (fun i cs e hh=>hbx ⟨cs,hh ▸ e⟩)]
     exact hj
   ·cases hj
  ·obtain ⟨q1,q2⟩:=PS.freeB_spec h0
   refine PS.freeB_iff.2 ⟨?_,?_⟩
   ·rw [Xr5 (σ:=σ) (d:=x.dst) (E:=Ex) j ?_]
    ·exact q1
    ·rintro i cs e rfl
     rcases fx3 _ cs e with ⟨h1,-⟩|⟨h1,h2,-⟩
     ·rcases hjj with h3|⟨-,h3⟩
      ·omega
      ·rw [h1,hoy] at h3;cases h3
     ·rcases hjj with h3|⟨h4,h3⟩
      ·rw [h3,hox] at h2;cases h2
      ·exact hsep (i7 (X22 h4).1 h1) _ h3 h2
   ·rw [Y1s (σ:=σ) (d:=x.dst) (E:=Ex) j ?_]
    ·exact q2
    ·rintro i cs e rfl
     rcases fx4 _ cs e with ⟨h1,-⟩|⟨h1,h2,-⟩
     ·rcases hjj with h3|⟨-,h3⟩
      ·omega
      ·rw [h1,hoy] at h3;cases h3
     ·rcases hjj with h3|⟨h4,h3⟩
      ·rw [h3,hox] at h2;cases h2
      ·exact i9 h1 (X22 (hd:=false) h4).2.2.2.1
 refine ⟨Ex,hx',Ey,hy',?_⟩
 rw [←Xzj σ y.dst x.dst Ey Ex i1 (fun a s ea es e=>(i2 a ea).1 (X86 (e ▸ fx1 s es))) (fun a s ea es e=>(i3 a ea).1 (X86 (e ▸ fy1 s es))) (fun s t es et e=>i4 s (fy1 s es) (e ▸ fx1 t et)) ?_ ?_]
 ·exact hk
 ·rintro i c j e hi' hj' rfl
  rcases fy2 i c hi' with ⟨e1,-⟩|⟨e1,e2,-⟩
  ·rcases fx3 i e hj' with ⟨e3,-⟩|⟨-,e4,-⟩
   ·omega
   ·rw [e1,hox] at e4;cases e4
  ·rcases fx3 i e hj' with ⟨e3,-⟩|⟨e3,e4,-⟩
   ·rw [e3,hoy] at e2;cases e2
   ·exact hsep (i7 e1 e3) _ e2 e4
 ·rintro i c j e hi' hj' rfl
  rcases fy3 i c hi' with ⟨e1,-⟩|⟨e1,e2,-⟩
  ·rcases fx4 i e hj' with ⟨e3,-⟩|⟨-,e4,-⟩
   ·omega
   ·rw [e1,hox] at e4;cases e4
  ·rcases fx4 i e hj' with ⟨e3,-⟩|⟨e3,e4,-⟩
   ·rw [e3,hoy] at e2;cases e2
   ·exact i8 e1 (Y68 e3)
end
section
open Go.RowKit
theorem PWop.mono {P:Program} {T:Tab} {σ:PS} {ops:Array Oper} {base:Nat} {ok:Nat→Nat→Bool} {i:Nat} {o:Oper} {K K' : PS→Prop} (hk:∀σ,K σ→K' σ) (h:PWop P T ops base ok i o K σ):PWop P T ops base ok i o K' σ:=by
 obtain ⟨E,h1,h2⟩:=h;exact ⟨E,h1,hk _ h2⟩
theorem X5.bubble {P:Program} {T:Tab} {ops:Array Oper} {base:Nat} {ok:Nat→Nat→Bool} {cl:List (List Nat)} {ix:Nat} {x:Oper} {post:List (Nat×Oper)} {Q:PS→Prop} : ∀(pre:List (Nat×Oper)) (σ:PS),(∀y∈pre,(indB ops cl y.1 ix y.2 x=true∧(sepB ops.toList cl y.1 ix y.2 x=true→∀j,ok y.1 j=true→ok ix j=true→False))∧y.1≠ix∧ok ix (base+y.1)=false∧ok y.1 (base+ix)=false) →
  X5 P T ops base ok (pre ++ (ix,x) :: post) Q σ→X5 P T ops base ok ((ix,x) :: (pre ++ post)) Q σ
 | [],σ,_,h=>h
 |(iy,y) :: pre,σ,hall,h=>by
  obtain ⟨h1,h2,h3,h4⟩:=hall (iy,y) S_
  have ih:=X5.bubble (P:=P) (T:=T) (ops:=ops) (base:=base) (ok:=ok) (cl:=cl) (ix:=ix) (x:=x) (post:=post) (Q:=Q) pre
  have:PWop P T ops base ok iy y (PWop P T ops base ok ix x (X5 P T ops base ok (pre ++ post) Q)) σ:=
   PWop.mono (fun σ' h' => ih σ' (fun z hz=>hall z (by simp [hz])) h') h
  exact PWop.swap (Xsk h1.1) h1.2 h2 h3 h4 this
theorem Xk1:∀(r:List Oper) (acc:List (List Nat)) (i:Nat) (o:Oper),r[i]? = some o→∃acc' : List (List Nat),acc'.length=acc.length+i∧(∀j,j < acc'.length→(Xjo r acc).getD j []=acc'.getD j [])∧(Xjo r acc).getD (acc.length+i) []=Xqa acc' o
 | [],acc,i,o,h=>by simp at h
 |p :: r,acc,i,o,h=>by
  have ext:∀(r:List Oper) (acc:List (List Nat)) (j:Nat),j < acc.length→(Xjo r acc).getD j []=acc.getD j []:=by
   intro r
   induction r with
   |nil=>intro acc j hj;rfl
   |cons q r ih=>
    intro acc j hj
    rw [X3v,ih _ _ (by simp;omega)]
    simp [G_,List.getElem?_append_left hj]
  cases i with
  |zero=>
   simp at h
   subst h
   refine ⟨acc,S_,fun j hj=>?_,?_⟩
   ·rw [X3v,ext _ _ _ (by simp;omega)]
    simp [G_,List.getElem?_append_left hj]
   ·rw [X3v,Nat.add_zero,ext _ _ _ S_]
    simp [G_]
  |succ i=>
   simp at h
   obtain ⟨acc',h1,h2,h3⟩:=Xk1 r (acc ++ [Xqa acc p]) i o h
   refine ⟨acc',by rw [h1];simp;omega,fun j hj=>by rw [X3v];exact h2 j hj,?_⟩
   rw [X3v,show acc.length+(i+1)=(acc ++ [Xqa acc p]).length+i by simp;omega]
   exact h3
theorem Xo5 {ops:List Oper} {i:Nat} {o:Oper} (ho:ops[i]? = some o) (hlt:∀e∈o.after.toList,Region.binds .any e=true→e.on < i) (k:Nat):k∈(clos ops).getD i []↔∃e∈o.after.toList,Region.binds .any e=true∧(k=e.on∨k∈(clos ops).getD e.on []):=by
 obtain ⟨acc',h1,h2,h3⟩:=Xk1 ops [] i o ho
 simp only [List.length_nil,Nat.zero_add] at h1 h3
 unfold clos
 rw [h3,Xqa,X6l,cloF,List.mem_flatMap]
 simp only [List.not_mem_nil,false_or]
 constructor
 ·rintro ⟨e,he,hk⟩
  split at hk
  ·rename_i hb
   refine ⟨e,he,hb,?_⟩
   rw [List.mem_cons] at hk
   rcases hk with hk|hk
   ·exact .inl hk
   ·right;rw [h2 _ (by rw [h1];exact hlt e he hb)];exact hk
  ·cases hk
 ·rintro ⟨e,he,hb,hk⟩
  refine ⟨e,he,?_⟩
  rw [if_pos hb,List.mem_cons]
  rcases hk with hk|hk
  ·exact .inl hk
  ·right;rw [←h2 _ (by rw [h1];exact hlt e he hb)];exact hk
theorem X2t {o:Oper} {j:Nat} : depO o j=true↔∃e∈o.after.toList,Region.binds .any e=true∧e.on=j:=by
 simp only [depO,Array.any_eq_true',Bool.and_eq_true,beq_iff_eq]
 constructor
 ·rintro ⟨e,he,h1,h2⟩;exact ⟨e,by simpa using he,h1,h2⟩
 ·rintro ⟨e,he,h1,h2⟩;exact ⟨e,by simpa using he,h1,h2⟩
theorem X6d {ops:List Oper} (h:Xk6 ops=true):(∀(i:Nat) o,ops[i]? = some o→∀e∈o.after.toList,Region.binds .any e=true→e.on < i) ∧
  (∀(i j:Nat) x y,ops[i]? = some x→ops[j]? = some y→j < i→j∈(clos ops).getD i []∨indB ops.toArray (clos ops) j i y x=true):=by
 have hm:∀(i:Nat) o,ops[i]? = some o→(i,o)∈Xa 0 ops:=by
  have:∀(l:List Oper) (k i:Nat) o,l[i]? = some o→(k+i,o)∈Xa k l:=by
   intro l
   induction l with
   |nil=>intro k i o h;simp at h
   |cons p l ih=>
    intro k i o h
    cases i with
    |zero=>simp at h;subst h;simp [Xa]
    |succ i=>
     simp at h
     have:=ih (k+1) i o h
     simp only [Xa,List.mem_cons]
     right
     rw [show k+(i+1)=k+1+i by omega];exact this
  intro i o h
  have:=this ops 0 i o h
  rwa [Nat.zero_add] at this
 simp only [Xk6] at h
 have h':=List.all_eq_true.1 h
 refine ⟨fun i o ho e he hb=>?_,fun i j x y hx hy hji=>?_⟩
 ·have:=h' _ (hm i o ho)
  simp only [Bool.and_eq_true] at this
  have:=List.all_eq_true.1 this.1 e he
  simpa [hb] using this
 ·have:=h' _ (hm i x hx)
  simp only [Bool.and_eq_true] at this
  have:=List.all_eq_true.1 this.2 _ (hm j y hy)
  simp only [hji,decide_true,Bool.not_true,Bool.false_or,Bool.or_eq_true,List.contains_iff_mem] at this
  exact this
theorem X8w {ops:List Oper} (hE:∀(i:Nat) o,ops[i]? = some o→∀e∈o.after.toList,Region.binds .any e=true→e.on < i):∀(i:Nat) o,ops[i]? = some o→∀k∈(clos ops).getD i [],k < i:=by
 intro i
 induction i using Nat.strongRecOn with
 |_ i ih=>
  intro o ho k hk
  obtain ⟨e,he,hb,hk⟩:=(Xo5 ho (hE i o ho) k).1 hk
  have hlt:=hE i o ho e he hb
  rcases hk with rfl|hk
  ·exact hlt
  ·have hi:i < ops.length:=(List.getElem?_eq_some_iff.1 ho).1
   have:=ih e.on hlt ops[e.on] S_ k hk
   omega
theorem V1 {ops:List Oper} (hE:∀(i:Nat) o,ops[i]? = some o→∀e∈o.after.toList,Region.binds .any e=true→e.on < i) {listed:Array Bool} (hcl:∀(i:Nat) o,ops[i]? = some o→listed.getD i false=true→∀j,depO o j=true→listed.getD j false=true) :
  ∀(i:Nat) o,ops[i]? = some o→(∀j,depO o j=true→listed.getD j false=true)→∀k∈(clos ops).getD i [],listed.getD k false=true:=by
 intro i
 induction i using Nat.strongRecOn with
 |_ i ih=>
  intro o ho hdep k hk
  obtain ⟨e,he,hb,hk⟩:=(Xo5 ho (hE i o ho) k).1 hk
  have hlt:=hE i o ho e he hb
  have hl:listed.getD e.on false=true:=hdep _ (X2t.2 ⟨e,he,hb,rfl⟩)
  rcases hk with rfl|hk
  ·exact hl
  ·have hi:i < ops.length:=(List.getElem?_eq_some_iff.1 ho).1
   have he' : ops[e.on]? = some ops[e.on]:=S_
   exact ih e.on hlt ops[e.on] he' (hcl e.on _ he' hl) k hk
theorem Kz:∀(k:Nat) (l:List Oper),(Xa k l).Pairwise (fun a b=>a.1 < b.1)
 |_,[]=>List.Pairwise.nil
 |k,o :: r=>by
  rw [Xa,List.pairwise_cons]
  refine ⟨fun b hb=>?_,Kz (k+1) r⟩
  have:=(Yb (k+1) r b hb).1
  simp only;omega
end
section
open Go.RowKit
variable {Φ0:Ent} {W:World} {M:Nat} {P:Program} {T:Tab} {ops:List Oper} {base:Nat}
theorem Xti (hT:T=Kf P) (hbase:base+ops.toArray.size≤1000000) (hall:∀(j:Nat) o,ops.toArray[j]? = some o→dstB M o=true) (hdraw:Xk6 ops=true) {Q:PS→Prop} {Q' : Exit→Act→World→Prop} (hQ:∀σ a w,Q σ→Rel Φ0 W M σ a w→Q' .normal a w) {r:Option Nat} :
  ∀(fuel:Nat) (listed:Array Bool) (σ:PS) (a:Act) (w:World),Ke listed≤fuel→listed.size=ops.length→(∀(i:Nat) o,ops[i]? = some o→listed.getD i false=true→∀j,depO o j=true→listed.getD j false=true) →
   X5 P T ops.toArray base (okR ops base) ((Xa 0 ops).filter fun x => !listed.getD x.1 false) Q σ→Rel Φ0 W M σ a w→wpAnyIn (FW r) 0 P .any ops.toArray Q' fuel listed a w:=by
 obtain ⟨hE,hI⟩:=X6d hdraw
 have hsz:∀listed:Array Bool,listed.size=ops.length→listed.size=ops.toArray.size:=fun l h=>by simpa using h
 have fin:∀(listed:Array Bool) (σ:PS) (a:Act) (w:World),listed.size=ops.length→(∀i,i < ops.length→listed.getD i false=true) →
   X5 P T ops.toArray base (okR ops base) ((Xa 0 ops).filter fun x => !listed.getD x.1 false) Q σ→Rel Φ0 W M σ a w→Q' .normal a w:=by
  intro listed σ a w hs hl h hr
  have:((Xa 0 ops).filter fun x => !listed.getD x.1 false) = []:=by
   rw [List.filter_eq_nil_iff]
   intro x hx
   obtain ⟨-,h2⟩:=Yb 0 ops x hx
   have:x.1 < ops.length:=by have:=(List.getElem?_eq_some_iff.1 h2).1;omega
   simp [hl x.1 this]
  rw [this] at h
  exact hQ σ a w h hr
 have alls:∀listed:Array Bool,listed.size=ops.length→Region.ready .any ops.toArray listed = []→∀i,i < ops.length→listed.getD i false=true:=by
  intro listed hs hr i
  induction i using Nat.strongRecOn with
  |_ i ih=>
   intro hi
   have ho:ops.toArray[i]? = some ops[i]:=by simp [hi]
   cases hl:listed.getD i false with
   |true=>rfl
   |false=>
    have:i∈Region.ready .any ops.toArray listed:=(Ym (hsz listed hs)).2 ⟨ops[i],ho,hl,fun j hj=>by
     obtain ⟨e,he,hb,rfl⟩:=X2t.1 hj
     have:=hE i ops[i] (by simp [hi]) e he hb
     exact ih e.on this O_⟩
    rw [hr] at this;cases this
 intro fuel
 induction fuel with
 |zero=>
  intro listed σ a w hu hs hcl h hr
  have hl:=Ky (Nat.le_zero.1 hu)
  rw [hs] at hl
  refine ⟨?_,fin listed σ a w hs hl h hr⟩
  apply List.eq_nil_iff_forall_not_mem.2
  intro i hi
  obtain ⟨o,ho,h1,_⟩:=(Ym (hsz listed hs)).1 hi
  rw [hl i (by have:=(Array.getElem?_eq_some_iff.1 ho).1;simpa using this)] at h1
  cases h1
 |succ fuel ih=>
  intro listed σ a w hu hs hcl h hr
  refine ⟨fun hrd=>fin listed σ a w hs (alls listed hs hrd) h hr,fun i hi=>?_⟩
  obtain ⟨o,ho,h1,h2⟩:=(Ym (hsz listed hs)).1 hi
  have ho' : ops[i]? = some o:=by simpa using ho
  have hil:i < ops.length:=(List.getElem?_eq_some_iff.1 ho').1
  have hmem:(i,o)∈(Xa 0 ops).filter fun x => !listed.getD x.1 false:=by
   rw [List.mem_filter]
   refine ⟨?_,by simp [h1]⟩
   have:∀(l:List Oper) (k i:Nat) o,l[i]? = some o→(k+i,o)∈Xa k l:=by
    intro l
    induction l with
    |nil=>intro k i o h;simp at h
    |cons p l ih=>
     intro k i o h
     cases i with
     |zero=>simp at h;subst h;simp [Xa]
     |succ i=>
      simp at h
      have:=ih (k+1) i o h
      simp only [Xa,List.mem_cons]
      right
      rw [show k+(i+1)=k+1+i by omega];exact this
   have:=this ops 0 i o ho'
   rwa [Nat.zero_add] at this
  obtain ⟨pre,post,hL⟩:=List.append_of_mem hmem
  have hsort:((Xa 0 ops).filter fun x => !listed.getD x.1 false).Pairwise (fun a b=>a.1 < b.1):=(Kz 0 ops).filter _
  rw [hL] at h hsort
  rw [List.pairwise_append] at hsort
  obtain ⟨-,hs2,hs3⟩:=hsort
  rw [List.pairwise_cons] at hs2
  have hpre:∀y∈pre,y.1 < i:=fun y hy=>hs3 y hy (i,o) S_
  have hpost:∀y∈post,i < y.1:=fun y hy=>hs2.1 y hy
  have hprem:∀y∈pre,ops[y.1]? = some y.2∧listed.getD y.1 false=false:=by
   intro y hy
   have:y∈(Xa 0 ops).filter fun x => !listed.getD x.1 false:=by rw [hL];simp [hy]
   rw [List.mem_filter] at this
   obtain ⟨-,q⟩:=Yb 0 ops y this.1
   exact ⟨by simpa using q,by simpa using this.2⟩
  have hb:=X5.bubble (P:=P) (T:=T) (base:=base) (ok:=okR ops base) (cl:=clos ops) (ix:=i) (x:=o) (post:=post) (Q:=Q) pre σ (by
   intro y hy
   obtain ⟨q1,q2⟩:=hprem y hy
   have hlt:=hpre y hy
   have hnc:y.1∉(clos ops).getD i []:=fun hc=>by
    rw [V1 hE hcl i o ho' h2 y.1 hc] at q2;cases q2
   have hyl:y.1 < ops.length:=(List.getElem?_eq_some_iff.1 q1).1
   refine ⟨⟨by simpa using (hI i y.1 o y.2 ho' q1 hlt).resolve_left hnc,fun hs j hj1 hj2=>Xmm (ops:=ops) q1 ho' (by simpa using hs) j hj1 hj2⟩,O_,?_,?_⟩
   ·rw [okR,Bool.and_eq_false_iff];left
    simp only [okD,Bool.or_eq_false_iff,decide_eq_false_iff_not]
    refine ⟨⟨O_,O_⟩,?_⟩
    rw [Nat.add_sub_cancel_left]
    simpa using hnc
   ·rw [okR,Bool.and_eq_false_iff];left
    simp only [okD,Bool.or_eq_false_iff,decide_eq_false_iff_not]
    refine ⟨⟨O_,O_⟩,?_⟩
    rw [Nat.add_sub_cancel_left]
    have:i∉(clos ops).getD y.1 []:=fun hc=>by have:=X8w hE y.1 y.2 q1 i hc;omega
    simpa using this) h
  have hset:listed.getD i false=false:=h1
  have hlt:i < listed.size:=by rw [hs];exact hil
  have hrem:pre ++ post=(Xa 0 ops).filter fun x => !(listed.setIfInBounds i true).getD x.1 false:=by
   have e1:((Xa 0 ops).filter fun x => !(listed.setIfInBounds i true).getD x.1 false)=((Xa 0 ops).filter fun x => !listed.getD x.1 false).filter (fun x => !decide (x.1=i)):=by
    rw [List.filter_filter]
    congr 1
    funext x
    rw [Yk _ _ _ hlt]
    cases listed.getD x.1 false<;>simp
   rw [e1,hL,List.filter_append,List.filter_cons]
   have e2:pre.filter (fun x => !decide (x.1=i))=pre:=List.filter_eq_self.2 (fun y hy=>by have:=hpre y hy;simp;omega)
   have e3:post.filter (fun x => !decide (x.1=i))=post:=List.filter_eq_self.2 (fun y hy=>by have:=hpost y hy;simp;omega)
   rw [e2,e3]
   simp
  have hcl' : ∀(k:Nat) p,ops[k]? = some p→(listed.setIfInBounds i true).getD k false=true→∀j,depO p j=true→(listed.setIfInBounds i true).getD j false=true:=by
   intro k p hp hk j hj
   rw [Yk _ _ _ hlt] at hk ⊢
   simp only [Bool.or_eq_true,decide_eq_true_eq] at hk ⊢
   rcases hk with rfl|hk
   ·rw [ho'] at hp;cases hp;exact .inr (h2 j hj)
   ·exact .inr (hcl k p hp hk j hj)
  have hstep:=X1w (Φ0:=Φ0) (W:=W) (M:=M) hT hall (base:=base) hbase ho (K':=wpAnyIn (FW r) 0 P .any ops.toArray Q' fuel (listed.setIfInBounds i true)) (Q':=Q') (fun σ' a' w' hk hr' => ih (listed.setIfInBounds i true) σ' a' w' (by have:=V0 listed i hlt hset;omega) (by simpa using hs) hcl' (by rw [←hrem];exact hk) hr') hb hr
  unfold wpOpIn
  rw [ho]
  simp only
  split
  ·rename_i hw;rw [if_pos hw] at hstep;exact Vl (Vz (hall i o ho)) hstep
  ·rename_i hw;rw [if_neg hw] at hstep;exact ⟨fun _ _=>trivial,hstep⟩
theorem PW.draw {Q:Exit→PS→Prop} {σ:PS} (hT:T=Kf P) (hm:P.follows .mixedOrders=true) {id:Nat} (hall2:(ops.all (dstB M) && Nat.ble (1000 * id+ops.length) 1000000)=true) (hd:Xk6 ops=true)
  (h:X5 P T ops.toArray (1000 * id) (okR ops (1000 * id)) (Xa 0 ops) (Q .normal) σ):PW P M (.region id ops.toArray true) Q σ:=by
 intro Φ0 W a w hr
 have hall2':=hall2
 simp only [Bool.and_eq_true] at hall2'
 obtain ⟨hall,hb0⟩:=hall2'
 have hbase:=Nat.le_of_ble_eq_true hb0
 refine wpIn_region_any hm ?_
 obtain ⟨Φ,μ,ω,hg⟩:=hr
 refine Xti (Φ0:=Φ0) (W:=W) (M:=M) (base:=1000 * id) (Q:=Q .normal) hT (by simpa using hbase) (by
  intro j o hj
  exact List.all_eq_true.1 hall o (Xc (by simpa using hj))) hd (fun σ a w hq hrel=>⟨_,Φ0,W,hq,Z4.refl _ _,hrel⟩) _ _ σ a _ ?_ S_ ?_ ?_ ⟨Φ,μ,ω,hg.drew⟩
 ·unfold Ke
  exact Nat.le_trans List.countP_le_length S_
 ·intro i o ho hl
  simp [Array.getD_eq_getD_getElem?,Array.getElem?_replicate] at hl
  split at hl<;>simp_all
 ·have:((Xa 0 ops).filter fun x => !(Array.replicate ops.toArray.size false).getD x.1 false)=Xa 0 ops:=by
   rw [List.filter_eq_self]
   intro x _
   simp [Array.getD_eq_getD_getElem?,Array.getElem?_replicate]
   split<;>rfl
  rw [this]
  exact h
end
section
open Go.ChangeShapes Go.WideShapes Go.ChangeAt Go.RowKit
def immW (W:World):Imm:=fun b o=>W.cell? ⟨b,o,none⟩
theorem RepL.append {Φ:Imm} {μ:Nat→Option Nat} {cs ds:List PV} {us vs:List Value} (h:RepL Φ μ cs us) (k:RepL Φ μ ds vs):RepL Φ μ (cs ++ ds) (us ++ vs):=by
 refine ⟨by simp [h.1,k.1],fun j c u h1 h2=>?_⟩
 by_cases hj:j < cs.length
 ·rw [List.getElem?_append_left hj] at h1
  rw [List.getElem?_append_left (by rw [h.1];exact hj)] at h2
  exact h.2 j c u h1 h2
 ·rw [List.getElem?_append_right O_] at h1
  rw [List.getElem?_append_right (by rw [h.1];omega),h.1] at h2
  exact k.2 _ c u h1 h2
def X2r (P:Program) (t:TypeId) {α:Type} (en:α→List PV) (ok:α→Prop):Prop:=
 ∀(H:Type) (enc:TypeId×Value→H) (W:World) (fuel:Nat) (cs:List Value) (d:DataW H) (pl:List MemPlace),
  DataW.trod enc P W 0 (fun _=>true) true fuel t cs=some (d,pl)→(∀n∈d.weights P t,n≤reachBytes)→∃y:α,ok y∧RepL (immW W) mu0 (en y) cs
end
section
open Go.ChangeShapes Go.WideShapes Go.ChangeAt Go.RowKit
variable {P:Program} {t e:TypeId}
theorem X2r.map {α β:Type} {en:α→List PV} {ok:α→Prop} (h:X2r P t en ok) (g:α→β) {en' : β→List PV} {ok' : β→Prop} (hen:∀a,ok a→en' (g a)=en a) (hok:∀a,ok a→ok' (g a)):X2r P t en' ok':=by
 intro H enc W fuel cs d pl h1 h2
 obtain ⟨y,k1,k2⟩:=h H enc W fuel cs d pl h1 h2
 exact ⟨g y,hok y k1,by rw [hen y k1];exact k2⟩
theorem Xdi {k:IntKind} (ht:P.underlying t=some (.int k)):X2r P t (fun z:Int => [.val (.int k z)]) (fun z=>(Lit.int k z).wf=true):=by
 intro H enc W fuel cs d pl h hw
 obtain ⟨n,rfl,hx,hwf⟩:=DataW.trod_int ht h
 exact ⟨n,hwf,RepL.cons (.val _ rfl) RepL.nil⟩
theorem Xp5 (ht:P.underlying t=some .bool):X2r P t (fun b:Bool => [.val (.bool b)]) (fun _=>True):=by
 intro H enc W fuel cs d pl h hw
 obtain ⟨n,rfl,hx⟩:=DataW.trod_bool ht h
 exact ⟨n,trivial,RepL.cons (.val _ rfl) RepL.nil⟩
theorem Xj7 (ht:P.underlying t=some .string):X2r P t (fun b:ByteArray => [.val (.string b)]) (fun b=>b.size≤reachBytes):=by
 intro H enc W fuel cs d pl h hw
 obtain ⟨s,rfl,hx,hs⟩:=DataW.trod_string ht h
 refine ⟨s,?_,RepL.cons (.val _ rfl) RepL.nil⟩
 cases hx
 have:=hw s.data.toList.length (by simp [DataW.weights])
 simpa using this
theorem X70 {H:Type} {e:TypeId} : ∀{l:List (DataW H)} {d:DataW H},d∈l→∀n∈d.weights P e,n∈DataW.weightsAll P e l
 |x :: l,d,h,n,hn=>by
  rw [DataW.weightsAll,List.mem_append]
  rcases List.mem_cons.1 h with rfl|h
  ·exact .inl hn
  ·exact .inr (X70 h n hn)
theorem Xq8 {α:Type} {en:α→List PV} {ok:α→Prop} {k b:Nat} (ht:P.underlying t=some (.slice e)) (hc:P.cellsOf e=k) (hk:0 < k) (hb:P.bytesOf e=b) (hlen:∀x,ok x→(en x).length=k)
  {H:Type} {enc:TypeId×Value→H} {W:World} {fuel:Nat} {cs:List Value} {d:DataW H} {pl:List MemPlace} (he:∀(n:Nat) (us:List Value) (D:DataW H) (Pl:List MemPlace),(∃l r,d = .slice l r∧D∈l)→DataW.trod enc P W 0 (fun _=>true) true n e us=some (D,Pl)→(∀x∈D.weights P e,x≤reachBytes)→∃y:α,ok y∧RepL (immW W) mu0 (en y) us)
  (h:DataW.trod enc P W 0 (fun _=>true) true fuel t cs=some (d,pl)) (hw:∀n∈d.weights P t,n≤reachBytes):∃xs:List α,((∀x∈xs,ok x)∧xs.length * b≤reachBytes)∧RepL (immW W) mu0 [.sl xs.length k (xs.flatMap en) none] cs:=by
 rcases Deep.open_slice ht h with ⟨rfl,hx⟩|⟨a,len,cap,m,n,D,Pl,rfl,-,hl,hm,hmm,hx,hel⟩
 ·exact ⟨[],⟨S_,S_⟩,RepL.cons (.sl0 _ _ _ _ (by unfold maxLen;omega)) RepL.nil⟩
 ·simp only [if_true] at hmm
  subst hmm
  cases hx
  have hall:∀i,i < len→∃y:α,ok y∧∃us,W.cells? 0 (a.add (i * P.cellsOf e)) (P.cellsOf e)=some us∧RepL (immW W) mu0 (en y) us:=by
   intro i hi
   obtain ⟨us,h1,h2⟩:=hel i O_
   obtain ⟨y,k1,k2⟩:=he n us (D i) (Pl i) ⟨_,_,rfl,List.mem_map.2 ⟨i,by simpa using hi,rfl⟩⟩ h2 (fun x hx=>by
    refine hw x ?_
    simp only [DataW.weights,ht,List.mem_cons,List.mem_append]
    exact .inr (.inl (X70 (List.mem_map.2 ⟨i,by simpa using hi,rfl⟩) x hx)))
   exact ⟨y,k1,us,h1,k2⟩
  have:∃xs:List α,xs.length=len∧∀i x,xs[i]? = some x→ok x∧∃us,W.cells? 0 (a.add (i * P.cellsOf e)) (P.cellsOf e)=some us∧RepL (immW W) mu0 (en x) us:=by
   have key:∀j,j≤len→∃xs:List α,xs.length=j∧∀i x,xs[i]? = some x→ok x∧∃us,W.cells? 0 (a.add (i * P.cellsOf e)) (P.cellsOf e)=some us∧RepL (immW W) mu0 (en x) us:=by
    intro j
    induction j with
    |zero=>exact fun _=>⟨[],rfl,fun i x hx=>by simp at hx⟩
    |succ j ih=>
     intro hj
     obtain ⟨xs,h1,h2⟩:=ih O_
     obtain ⟨y,k1,k2⟩:=hall j O_
     refine ⟨xs ++ [y],by simp [h1],fun i x hx=>?_⟩
     by_cases hi:i < j
     ·rw [List.getElem?_append_left O_] at hx;exact h2 i x hx
     ·rw [List.getElem?_append_right O_] at hx
      have h0:i - xs.length=0:=by
       have:=(List.getElem?_eq_some_iff.1 hx).1
       simp at this;omega
      rw [h0] at hx;simp at hx;subst hx
      obtain rfl:i=j:=O_
      exact ⟨k1,k2⟩
   exact key len (Nat.le_refl _)
  obtain ⟨xs,hxl,hxs⟩:=this
  refine ⟨xs,⟨fun x hx=>?_,?_⟩,RepL.cons ?_ RepL.nil⟩
  ·obtain ⟨i,hi⟩:=List.getElem?_of_mem hx
   exact (hxs i x hi).1
  ·have hw1:=hw (((List.range len).map D).length * P.bytesOf e+((List.range (m - len)).map fun j=>D (len+j)).length * P.bytesOf e) (by
    simp only [DataW.weights,ht,List.mem_cons,List.mem_append,Nat.add_mul]
    exact .inl trivial)
   simp only [List.length_map,List.length_range,hb] at hw1
   rw [hxl];omega
  ·by_cases h0:len=0
   ·subst h0
    obtain rfl:xs = []:=List.eq_nil_of_length_eq_zero hxl
    exact .sl0 _ _ _ _ hm
   ·obtain ⟨bl,off,spot⟩:=a
    have hfl:(xs.flatMap en).length=len * k:=by
     rw [←hxl]
     have:∀(l:List α),(∀x∈l,(en x).length=k)→(l.flatMap en).length=l.length * k:=by
      intro l
      induction l with
      |nil=>simp
      |cons x l ih=>intro h;rw [List.flatMap_cons,A_,h x S_,ih (fun y hy=>h y (by simp [hy])),C_,Nat.succ_mul];omega
     exact this xs (fun x hx=>by
      obtain ⟨i,hi⟩:=List.getElem?_of_mem hx
      exact hlen x (hxs i x hi).1)
    have hcell:∀i r,i < len→r < k→∃x u,xs[i]? = some x∧W.cell? (Addr.add (Addr.add ⟨bl,off,spot⟩ (i * k)) r)=some u∧∀c,(en x)[r]? = some c→Rep (immW W) mu0 c u:=by
     intro i r hi hr
     have hix:i < xs.length:=O_
     obtain ⟨k1,us,k2,k3⟩:=hxs i xs[i] (by simp [hix])
     obtain ⟨-,q2,q3⟩:=World.cells?_some k2
     rw [hc] at q2 q3
     have hru:r < us.length:=O_
     refine ⟨xs[i],us[r],by simp [hix],by rw [q3 r hr];simp [hru],fun c hcc=>k3.2 r c _ hcc (by simp [hru])⟩
    have hspot:spot=none:=by
     obtain ⟨x,u,-,h2,-⟩:=hcell 0 0 O_ hk
     have:=World.cell?_spot h2
     simpa [Addr.add] using this
    subst hspot
    rw [←hxl]
    refine .sl xs.length k _ none bl off m (fun j=>(W.cell? ⟨bl,off+j,none⟩).getD undef) (by rw [hfl,hxl]) O_ hm (fun j hj=>?_) (fun j c hj=>?_)
    ·rw [hfl] at hj
     have hq:j / k < len:=by rw [Nat.div_lt_iff_lt_mul hk];exact hj
     obtain ⟨x,u,-,h2,-⟩:=hcell (j / k) (j % k) hq (Nat.mod_lt _ hk)
     rw [Addr.add_lit,Addr.add_lit,Nat.add_assoc,Nat.mul_comm,Nat.div_add_mod] at h2
     simp only [immW,h2,Option.getD_some]
    ·have hjl:=(List.getElem?_eq_some_iff.1 hj).1
     rw [hfl] at hjl
     have hq:j / k < len:=by rw [Nat.div_lt_iff_lt_mul hk];exact hjl
     obtain ⟨x,u,h1,h2,h3⟩:=hcell (j / k) (j % k) hq (Nat.mod_lt _ hk)
     rw [Addr.add_lit,Addr.add_lit,Nat.add_assoc,Nat.mul_comm,Nat.div_add_mod] at h2
     rw [h2,Option.getD_some]
     refine h3 c ?_
     have hxk:∀x∈xs,(en x).length=k:=fun x hx=>by
      obtain ⟨i,hi⟩:=List.getElem?_of_mem hx
      exact hlen x (hxs i x hi).1
     have gen:∀(l:List α) (i r:Nat) (x:α),(∀x∈l,(en x).length=k)→l[i]? = some x→r < k→(l.flatMap en)[i * k+r]? = (en x)[r]?:=by
      intro l
      induction l with
      |nil=>intro i r x _ h;simp at h
      |cons y l ih=>
       intro i r x hl h hr
       rw [List.flatMap_cons]
       cases i with
       |zero=>
        simp at h;subst h
        rw [Nat.zero_mul,Nat.zero_add,List.getElem?_append_left (by rw [hl y S_];exact hr)]
       |succ i=>
        simp at h
        have:=ih i r x (fun z hz=>hl z (by simp [hz])) h hr
        rw [List.getElem?_append_right (by rw [hl y S_,Nat.succ_mul];omega),hl y S_,←this]
        congr 1
        rw [Nat.succ_mul];omega
     rw [←gen xs (j / k) (j % k) x hxk h1 (Nat.mod_lt _ hk),Nat.mul_comm,Nat.div_add_mod]
     exact hj
theorem X7e {α:Type} {en:α→List PV} {ok:α→Prop} {k b:Nat} (ht:P.underlying t=some (.slice e)) (hc:P.cellsOf e=k) (hk:0 < k) (hb:P.bytesOf e=b) (he:X2r P e en ok) (hlen:∀x,ok x→(en x).length=k) :
  X2r P t (fun xs:List α => [.sl xs.length k (xs.flatMap en) none]) (fun xs=>(∀x∈xs,ok x)∧xs.length * b≤reachBytes):=
 fun H enc W _ _ _ _ h hw=>Xq8 ht hc hk hb hlen (fun n us D Pl _ h1 h2=>he H enc W n us D Pl h1 h2) h hw
def X9k (P:Program) (fs:List Field) (o m:Nat) {α:Type} (en:α→List PV) (ok:α→Prop):Prop:=
 ∀(H:Type) (enc:TypeId×Value→H) (W:World) (n:Nat) (cs:List Value) (xs:List (DataW H×List MemPlace)),xs.length=fs.length→(∀(i:Nat) (f:Field),fs[i]? = some f→DataW.trod enc P W 0 (fun _=>true) true n f.type ((cs.drop f.offset).take (P.cellsOf f.type))=xs[i]?) →
  (∀k∈DataW.weightsEach P (fs.map (·.type)) (xs.map (·.1)),k≤reachBytes)→∃y:α,ok y∧RepL (immW W) mu0 (en y) ((cs.drop o).take m)
theorem Xln {o:Nat} : X9k P [] o 0 (fun _:Unit => []) (fun _=>True):=by
 intro H enc W n cs xs _ _ _
 exact ⟨(),trivial,by simpa using RepL.nil⟩
theorem Xhm {f:Field} {fs:List Field} {o k m:Nat} {α β:Type} {en1:α→List PV} {ok1:α→Prop} {en2:β→List PV} {ok2:β→Prop} (ho:f.offset=o) (hk:P.cellsOf f.type=k) (h1:X2r P f.type en1 ok1) (h2:X9k P fs (o+k) m en2 ok2) :
  X9k P (f :: fs) o (k+m) (fun p:α×β=>en1 p.1 ++ en2 p.2) (fun p=>ok1 p.1∧ok2 p.2):=by
 intro H enc W n cs xs hl hx hw
 cases xs with
 |nil=>simp at hl
 |cons x xs=>
  have e0:=hx 0 f rfl
  rw [ho,hk] at e0
  obtain ⟨y,k1,k2⟩:=h1 H enc W n _ x.1 x.2 e0 (fun z hz=>hw z (by simp only [List.map_cons,DataW.weightsEach,List.mem_append];exact .inl hz))
  obtain ⟨z,k3,k4⟩:=h2 H enc W n cs xs (by simpa using hl) (fun i g hg=>by have:=hx (i+1) g (by simpa using hg);simpa using this) (fun z hz=>hw z (by simp only [List.map_cons,DataW.weightsEach,List.mem_append];exact .inr hz))
  refine ⟨(y,z),⟨k1,k3⟩,?_⟩
  rw [List.take_add,List.drop_drop]
  exact k2.append k4
theorem X7p {f:Field} {fs:List Field} {o m:Nat} {α β:Type} {en1:α→List PV} {ok1:α→Prop} {en2:β→List PV} {ok2:β→Prop} (ho:f.offset=o) (h1:X2r P f.type en1 ok1) (hk:P.cellsOf f.type=1) (h2:X9k P fs (o+1) m en2 ok2) :
  X9k P (f :: fs) o (m+1) (fun p:α×β=>en1 p.1 ++ en2 p.2) (fun p=>ok1 p.1∧ok2 p.2):=by
 rw [Nat.add_comm m 1];exact Xhm ho hk h1 h2
theorem Xia {fs:Array Field} {m:Nat} {α:Type} {en:α→List PV} {ok:α→Prop} (ht:P.underlying t=some (.struct fs)) (hf:X9k P fs.toList 0 m en ok) (hc:P.cellsOf t=m):X2r P t en ok:=by
 intro H enc W fuel cs d pl h hw
 obtain ⟨xs,n,rfl,hx,h3,h4,h5⟩:=DataW.trod_struct ht h
 cases hx
 obtain ⟨y,k1,k2⟩:=hf H enc W n cs xs (by simpa using h4) (fun i f hf=>h5 i f (by simpa using hf)) (fun z hz=>hw z (by simpa only [DataW.weights,ht] using hz))
 refine ⟨y,k1,?_⟩
 rwa [List.drop_zero,H_ O_] at k2
def Z3 (P:Program) (t:TypeId) {α:Type} (pe:α→PV) (ok:α→Prop):Prop:=
 ∀(H:Type) (enc:TypeId×Value→H) (W:World) (base:Nat) (v:Value) (d:DataW H) (pl:List MemPlace),Value.okWide P W .any base t v→DataW.Trod enc P W 0 (fun _=>true) true t v d pl→(∀n∈d.weights P t,n≤reachBytes)→∃y:α,ok y∧Rep (immW W) mu0 (pe y) v
theorem Xbq {Φ:Imm} {μ:Nat→Option Nat} {p:PV} {v:Value} (h:RepL Φ μ [p] [v]):Rep Φ μ p v:=h.2 0 p v rfl rfl
theorem Xkm {k:IntKind} (ht:P.underlying t=some (.int k)):Z3 P t (fun z:Int=>.val (.int k z)) (fun z=>(Lit.int k z).wf=true):=by
 intro H enc W base v d pl hv ⟨fuel,h⟩ hw
 obtain ⟨z,rfl⟩:=okWide_int ht hv
 obtain ⟨y,k1,k2⟩:=Xdi ht H enc W fuel _ d pl h hw
 exact ⟨y,k1,Xbq k2⟩
theorem Xcd {α:Type} {pe:α→PV} {ok:α→Prop} (ht:P.underlying t=some (.slice e)) (h0:X2r P t (fun x => [pe x]) ok):Z3 P t pe ok:=by
 intro H enc W base v d pl hv ⟨fuel,h⟩ hw
 obtain ⟨a,l,c,rfl⟩:=okWide_slice ht hv
 obtain ⟨y,k1,k2⟩:=h0 H enc W fuel _ d pl h hw
 exact ⟨y,k1,Xbq k2⟩
theorem Z3.map {α β:Type} {pe:α→PV} {ok:α→Prop} (h:Z3 P t pe ok) (g:α→β) {pe' : β→PV} {ok' : β→Prop} (hen:∀a,ok a→pe' (g a)=pe a) (hok:∀a,ok a→ok' (g a)):Z3 P t pe' ok':=by
 intro H enc W base v d pl h0 h1 h2
 obtain ⟨y,k1,k2⟩:=h H enc W base v d pl h0 h1 h2
 exact ⟨g y,hok y k1,by rw [hen y k1];exact k2⟩
def X8g (P:Program) (ts:List TypeId) {α:Type} (en:α→List PV) (ok:α→Prop):Prop:=
 ∀(H:Type) (enc:TypeId×Value→H) (W:World) (base:Nat) (vs:List Value) (ds:List (DataW H)) (pl:List MemPlace),(∀(j:Nat) t v,ts[j]? = some t→vs[j]? = some v→Value.okWide P W .any base t v)→DataW.TrodAll enc P W 0 (fun _=>true) true ts vs ds pl →
  (∀n∈DataW.weightsEach P ts ds,n≤reachBytes)→ds.length=ts.length∧∃y:α,ok y∧RepL (immW W) mu0 (en y) vs
theorem X4w:X8g P [] (fun _:Unit => []) (fun _=>True):=by
 intro H enc W base vs ds pl _ h _
 obtain ⟨rfl,rfl,rfl⟩:=trodAll_nil h
 exact ⟨rfl,(),trivial,RepL.nil⟩
theorem Ka {ts:List TypeId} {α β:Type} {pe:α→PV} {ok1:α→Prop} {en:β→List PV} {ok2:β→Prop} (h1:Z3 P t pe ok1) (h2:X8g P ts en ok2):X8g P (t :: ts) (fun p:α×β=>pe p.1 :: en p.2) (fun p=>ok1 p.1∧ok2 p.2):=by
 intro H enc W base vs ds pl hv h hw
 match vs,ds,h with
 |v :: vs,d :: ds,h=>
  obtain ⟨p,q,g1,g2,-⟩:=h
  obtain ⟨y,k1,k2⟩:=h1 H enc W base v d p (hv 0 t v rfl rfl) g1 (fun z hz=>hw z (by simp only [DataW.weightsEach,List.mem_append];exact .inl hz))
  obtain ⟨hl,z,k3,k4⟩:=h2 H enc W base vs ds q (fun j t v e1 e2=>hv (j+1) t v (by simpa using e1) (by simpa using e2)) g2 (fun z hz=>hw z (by simp only [DataW.weightsEach,List.mem_append];exact .inr hz))
  exact ⟨by simp [hl],(y,z),⟨k1,k3⟩,RepL.cons k2 k4⟩
 | [],[],h=>simp [DataW.TrodAll] at h
 | [],_ :: _,h=>simp [DataW.TrodAll] at h
 |_ :: _,[],h=>simp [DataW.TrodAll] at h
end
section
open Go.ChangeShapes Go.WideShapes Go.ChangeAt Go.RowKit
theorem X7k {f:FuncId} {fn:Func} {s:ChangeSpec} {conds:List PathCond} {tb:TypeId} {α:Type} {en:α→List PV} {ok:α→Prop} {laid:List (String×DataW Unit)} (os:Os) (started:os.Started) (H:Type) (enc:TypeId×Value→H) (hfn:Tryz.checked.prog.funcs[f]? = some fn) (noInit:Tryz.checked.prog.inits.idxOf? f=none)
  (witness:∃(w:World) (tape:Tape) (i:Input),w.os=os∧(w.forCall tape i).Shaped Tryz.checked.prog∧i.vars = []∧Input.okWide Tryz.checked.prog (w.forCall tape i) .any w.heap.size f i ∧
   ((s.pre enc Tryz.checked.prog fn conds false (w.forCall tape i).memory i.args∧laidMetH Tryz.prog laid (w.forCall tape i).memory)∧sizedMet enc Tryz.checked.prog fn (OpenSpec.ofChange s) false (w.forCall tape i).memory i.args)∧({} : Assume).holds Tryz.checked.prog (lone (Frame.enter Tryz.checked.prog f i.args .normal) [] (w.forCall tape i)))
  (htb:Tryz.prog.underlying tb=some .bool) (hres:fn.resultTypes = #[tb]) (hvars:s.vars = []) (hread:fn.params.toList.all (fun t=>Tryz.prog.readableRec t && decide (t < Tryz.prog.types.size))=true)
  (hspec:∀ds:List (DataW H),ds.length=fn.params.size→(s.fn H (ds ++ [])).results = [.lit (.bool true)]∧(s.fn H (ds ++ [])).args=ds∧(s.fn H (ds ++ [])).vars = [])
  (hargs:X8g Tryz.prog fn.params.toList en ok) (hc:∀y,ok y→Xs Tryz.prog f (en y) (· = Y1 true))
  (hglob:∀W,laidMetH Tryz.prog laid W→∀x∈X3b,∀j z,x.2.2[j]? = some z→W.cell? ⟨x.1,j,none⟩=some (.int x.2.1 z)) :
  ReturnsInHanded {} Tryz.checked os f .any (fun w args=>(s.pre enc Tryz.prog fn conds false w args∧laidMetH Tryz.prog laid w)∧sizedMet enc Tryz.prog fn (OpenSpec.ofChange s) false w args) (s.post enc Tryz.prog fn false true false false):=by
 refine returnsInHanded_of_change_and (C:=Tryz.checked) (X:=fun w _=>laidMetH Tryz.prog laid w) (fun _ _ _ hh h=>h.of_heap hh) own started noInit hfn witness ?_
 intro W base args ds gs before hval0 hW _ hsz hL _
 have hval:∀(j:Nat) t v,fn.params[j]? = some t→args[j]? = some v→Value.okWide Tryz.prog W .any base t v:=hval0
 have hW':=hW
 obtain ⟨p,q,hA,hV,rfl,_,_⟩:=hW
 rw [hvars] at hV
 obtain ⟨rfl,rfl⟩:=trodVars_none hV
 have hvt:s.plain.varTypes Tryz.prog = []:=by simp [ChangeSpec.plain,DataSpec.varTypes,hvars]
 rw [show s.plain.varTypes Tryz.checked.prog = [] from hvt,List.append_nil,List.append_nil,List.all_eq_true] at hsz
 obtain ⟨hl,y,hy,hr⟩:=hargs H enc W base args.toList ds p (fun j t v h1 h2=>hval j t v (by simpa using h1) (by simpa using h2)) hA (fun n hn=>of_decide_eq_true (hsz n hn))
 obtain ⟨s1,s2,s3⟩:=hspec ds (by simpa using hl)
 have hcall:=(hc y hy).2 (immW W) mu0 W args.toList (fun b o u h=>h) (hglob W hL) hr
 rw [Array.toArray_toList] at hcall
 refine hcall.mono ?_
 rintro e W' ⟨r,v,Φ',rfl,rfl,hrep,-,-,hb,-⟩
 obtain ⟨rfl,-⟩:=hrep.val_inv
 exact ⟨_,rfl,Xo4 Xt9 htb hres hvars hread hW' s1 s2 s3 hb⟩
theorem Xg5 {P:Program} {W:World} {n:String} {k:IntKind} {zs:List Int} {g:Nat} {t e:TypeId} {m:Nat} (hg:P.globalNamed n=some g) (hty:(P.globals[g]?).map (·.type)=some t) (ht:P.underlying t=some (.array m e)) (he:P.underlying e=some (.int k)) (hce:P.cellsOf e=1) (hct:P.cellsOf t=m) (h:Lib.VarReads P W n (Lib.tabData k zs)):∀j z,zs[j]? = some z→W.cell? ⟨g,j,none⟩=some (.int k z):=by
 obtain ⟨g',t',cs,fuel,p,h1,h2,h3,h4⟩:=h
 obtain rfl:=Option.some.inj (hg.symm.trans h1)
 obtain rfl:=Option.some.inj (hty.symm.trans h2)
 have hc:=Lib.cells_of_tab ht he hce hct h4
 intro j z hz
 have:=World.var?_cell hg h3 j
 rw [this]
 have hcs:cs[j]? = cs.toList[j]?:=S_
 rw [hcs,hc]
 simp [hz]
end
section
theorem X0r {α:Type} (zs:List α) (k:Nat) (a:α) (ha:zs[k]? = some a):zs.drop k=a :: zs.drop (k+1):=by
 obtain ⟨hk,rfl⟩:=List.getElem?_eq_some_iff.1 ha
 rw [List.drop_eq_getElem_cons O_]
def Y8 (r:Bool→Bool→Bool):Nat→List Int→List Int→Bool→Bool→Bool→List Int
 |0,_,_,_,_,_ => []
 |_+1,[],[],_,_,_ => []
 |n+1,a :: az,[],pa,pb,po=>if r (!pa) pb != po then a :: Y8 r n az [] (!pa) pb (!po) else Y8 r n az [] (!pa) pb po
 |n+1,[],b :: bs,pa,pb,po=>if r pa (!pb) != po then b :: Y8 r n [] bs pa (!pb) (!po) else Y8 r n [] bs pa (!pb) po
 |n+1,a :: az,b :: bs,pa,pb,po=>
  if a < b then (if r (!pa) pb != po then a :: Y8 r n az (b :: bs) (!pa) pb (!po) else Y8 r n az (b :: bs) (!pa) pb po)
  else if b < a then (if r pa (!pb) != po then b :: Y8 r n (a :: az) bs pa (!pb) (!po) else Y8 r n (a :: az) bs pa (!pb) po)
  else (if r (!pa) (!pb) != po then a :: Y8 r n az bs (!pa) (!pb) (!po) else Y8 r n az bs (!pa) (!pb) po)
def Xbv (r:Bool→Bool→Bool) (az bs:List Int):List Int:=Y8 r (az.length+bs.length) az bs false false false
theorem Xfa (r:Bool→Bool→Bool) (n:Nat) (pa pb po:Bool):Y8 r n [] [] pa pb po = []:=by cases n<;>rfl
theorem X2q (r:Bool→Bool→Bool) (n:Nat) (a:Int) (az:List Int) (pa pb po:Bool) :
  Y8 r (n+1) (a :: az) [] pa pb po=if r (!pa) pb != po then a :: Y8 r n az [] (!pa) pb (!po) else Y8 r n az [] (!pa) pb po:=rfl
theorem X1k (r:Bool→Bool→Bool) (n:Nat) (b:Int) (bs:List Int) (pa pb po:Bool) :
  Y8 r (n+1) [] (b :: bs) pa pb po=if r pa (!pb) != po then b :: Y8 r n [] bs pa (!pb) (!po) else Y8 r n [] bs pa (!pb) po:=rfl
def Z2 (r:Bool→Bool→Bool) (az bs:List Int) (i k:Nat) (out:List Int):Prop:=
 Xbv r az bs=out ++ Y8 r (az.length - i+(bs.length - k)) (az.drop i) (bs.drop k) (decide (i % 2=1)) (decide (k % 2=1)) (decide (out.length % 2=1))
theorem Z2.done {r:Bool→Bool→Bool} {az bs:List Int} {i k:Nat} {out:List Int} (h:Z2 r az bs i k out) (hi:az.length≤i) (hk:bs.length≤k):Xbv r az bs=out:=by
 rw [Z2,List.drop_eq_nil_of_le hi,List.drop_eq_nil_of_le hk,Xfa] at h
 simpa using h
theorem Zx (i:Nat):decide ((i+1) % 2=1) = !decide (i % 2=1):=by
 by_cases h:i % 2=1
 ·have:(i+1) % 2=0:=O_
  simp [h,this]
 ·have:(i+1) % 2=1:=O_
  simp [h,this]
def Xg9 (c:Bool) (out:List Int) (x:Int):List Int:=if c then out ++ [x] else out
theorem Z2.left {r:Bool→Bool→Bool} {az bs:List Int} {i k:Nat} {out:List Int} (h:Z2 r az bs i k out) (x:Int) (hx:az[i]? = some x) (hk:bs.length≤k∨∃y,bs[k]? = some y∧x < y) (c:Bool)
  (hc:c=(r (decide ((i+1) % 2=1)) (decide (k % 2=1)) != decide (out.length % 2=1))):Z2 r az bs (i+1) k (Xg9 c out x):=by
 obtain ⟨hi,_⟩:=List.getElem?_eq_some_iff.1 hx
 unfold Z2 at h ⊢
 rw [h]
 have e1:az.length - i+(bs.length - k)=(az.length - (i+1)+(bs.length - k))+1:=O_
 rw [e1,X0r az i x hx]
 rw [Zx] at hc
 have step:Y8 r (az.length - (i+1)+(bs.length - k)+1) (x :: az.drop (i+1)) (bs.drop k) (decide (i % 2=1)) (decide (k % 2=1)) (decide (out.length % 2=1)) =
   if c then x :: Y8 r (az.length - (i+1)+(bs.length - k)) (az.drop (i+1)) (bs.drop k) (!decide (i % 2=1)) (decide (k % 2=1)) (!decide (out.length % 2=1))
   else Y8 r (az.length - (i+1)+(bs.length - k)) (az.drop (i+1)) (bs.drop k) (!decide (i % 2=1)) (decide (k % 2=1)) (decide (out.length % 2=1)):=by
  rcases hk with hk|⟨y,hy,hxy⟩
  ·rw [List.drop_eq_nil_of_le hk,X2q,hc]
  ·rw [X0r bs k y hy,Y8.eq_5,if_pos hxy,hc]
 rw [step,Zx]
 cases c
 ·simp [Xg9]
 ·simp only [Xg9,if_true,A_,C_,List.length_nil,Nat.zero_add,Zx,List.append_assoc,List.cons_append,List.nil_append]
theorem Z2.right {r:Bool→Bool→Bool} {az bs:List Int} {i k:Nat} {out:List Int} (h:Z2 r az bs i k out) (x:Int) (hx:bs[k]? = some x) (hk:az.length≤i∨∃y,az[i]? = some y∧x < y) (c:Bool)
  (hc:c=(r (decide (i % 2=1)) (decide ((k+1) % 2=1)) != decide (out.length % 2=1))):Z2 r az bs i (k+1) (Xg9 c out x):=by
 obtain ⟨hi,_⟩:=List.getElem?_eq_some_iff.1 hx
 unfold Z2 at h ⊢
 rw [h]
 have e1:az.length - i+(bs.length - k)=(az.length - i+(bs.length - (k+1)))+1:=O_
 rw [e1,X0r bs k x hx]
 rw [Zx] at hc
 have step:Y8 r (az.length - i+(bs.length - (k+1))+1) (az.drop i) (x :: bs.drop (k+1)) (decide (i % 2=1)) (decide (k % 2=1)) (decide (out.length % 2=1)) =
   if c then x :: Y8 r (az.length - i+(bs.length - (k+1))) (az.drop i) (bs.drop (k+1)) (decide (i % 2=1)) (!decide (k % 2=1)) (!decide (out.length % 2=1))
   else Y8 r (az.length - i+(bs.length - (k+1))) (az.drop i) (bs.drop (k+1)) (decide (i % 2=1)) (!decide (k % 2=1)) (decide (out.length % 2=1)):=by
  rcases hk with hk|⟨y,hy,hxy⟩
  ·rw [List.drop_eq_nil_of_le hk,X1k,hc]
  ·rw [X0r az i y hy,Y8.eq_5,if_neg O_,if_pos hxy,hc]
 rw [step,Zx]
 cases c
 ·simp [Xg9]
 ·simp only [Xg9,if_true,A_,C_,List.length_nil,Nat.zero_add,Zx,List.append_assoc,List.cons_append,List.nil_append]
end
section
open Go.RowKit
theorem Byte.all {bs:List Int} (h:Byte bs):∀c∈bs,0≤c∧c < 256:=by
 intro c hc
 obtain ⟨k,hk⟩:=List.getElem?_of_mem hc
 exact h k c hk
theorem Byte.of {bs:List Int} (h:∀c∈bs,0≤c∧c < 256):Byte bs:=fun _ c hk=>h c (List.mem_of_getElem? hk)
def Xhp (w:World) (r:List Int×Int×Int) (e:Ending) (w' : World):Prop:=
 ∃v,e = .returned (.tuple #[v, .int .i64 r.2.1, .int .i64 r.2.2])∧Own w.heap.size 3 w' v (r.1.map (Value.int .i64))∧Below w.heap.size w w'
theorem Xhp.mk {w w' : World} {r:List Int×Int×Int} {l:List Int} {x y:Int} {v:Value} (h:r=(l,x,y)) (ho:Own w.heap.size 3 w' v (l.map (Value.int .i64))) (hb:Below w.heap.size w w') :
  Xhp w r (.returned (.tuple #[v, .int .i64 x, .int .i64 y])) w':=by
 subst h;exact ⟨v,rfl,ho,hb⟩
theorem Byte.drop {bs:List Int} (h:Byte bs) (m:Nat):Byte (bs.drop m):=fun k c hk=>h (m+k) c (by rw [←List.getElem?_drop];exact hk)
end
section
open Go.RowKit
variable {P:Program}
theorem X8e (w:World) (dT sT ty elem:TypeId) (b o dLen dCap:Nat) (a:Addr) (sLen sCap n k:Nat) (cs:List Value)
  (hu:P.underlying dT=some (.slice elem)) (hs:(P.info? elem).map (·.size)=some k) (hm:Nat.min sLen dLen=n) (hn:cs.length=n * k)
  (hsrc:∀j v,cs[j]? = some v→w.cell? (a.add j)=some v) (hc:∀j,j < cs.length→(w.cell? ⟨b,o+j,none⟩).isSome=true) (hf:∀j,j < cs.length→w.frozen? ⟨b,o+j,none⟩=false) (h1:∀v∈cs,v.oneCell' = true) :
  (Builtin.copy_ #[dT,sT] ty #[.slice (some ⟨b,o,none⟩) dLen dCap, .slice (some a) sLen sCap]).run P w = .ok (goInt n) (w.setCells b o cs):=by
 have hl:=run_loadCells_list (P:=P) w a cs hsrc
 have hst:=run_storeCells_cells (P:=P) b o cs 0 w (by simpa using hc) (by simpa using hf) h1
 cases hq:P.info? elem with
 |none=>simp [hq] at hs
 |some i=>
  have hi:i.size=k:=by simpa [hq] using hs
  simp [Builtin.copy_,run_underlying hu,Builtin.lenOf,Builtin.firstCells,sizeOf,typeInfo,hq,hi,hm,←hn,hl,hst]
theorem Xwu (w:World) {o:Oper} {a:Act} {K:Act→World→Prop} {Q:Exit→Act→World→Prop} (d s:Operand) (t t' : TypeId)
  (ho:o.op = .call { callee:=.builtin .copy,args := #[d,s],argTypes := #[t,t'] }) (v u:Value) (hd:a.eval d=v) (hs:a.eval s=u) {v' : Value} {w' : World}
  (hr:(Builtin.copy_ #[t,t'] o.type #[v,u]).run P w = .ok v' w') (h:K (a.put o.dst v') w'):o.wp P a w K Q:=by
 unfold Oper.wp execOp
 simp only [ho,resolve,invoke,builtin,Sem.run_bind,Sem.run_pure,Result.andThen_ok,List.map_toArray,List.map_cons,List.map_nil,hd,hs,hr]
 exact h
theorem X5o (w:World) {ops:Array Oper} {rest:List Oper} {o:Oper} {a:Act} {Q:Exit→Act→World→Prop} (hgd:o.guard=none) (d s:Operand) (t t' : TypeId)
  (ho:o.op = .call { callee:=.builtin .copy,args := #[d,s],argTypes := #[t,t'] }) (v u:Value) (hd:a.eval d=v) (hs:a.eval s=u) {v' : Value} {w' : World}
  (hr:(Builtin.copy_ #[t,t'] o.type #[v,u]).run P w = .ok v' w') (h:wpList P ops Q rest (a.put o.dst v') w'):wpList P ops Q (o :: rest) a w:=
 wpList_plain hgd fun _ hK=>Xwu w d s t t' ho v u hd hs hr (hK _ _ h)
theorem Xee {ops:Array Oper} {o:Oper} {a:Act} {w:World} {K:Act→World→Prop} {Q:Exit→Act→World→Prop} {E:Prop}
  (hg:o.guard=none) (d x:Operand) (dT sT:TypeId) (hop:o.op=Op.call { callee:=Callee.builtin Builtin.copy,args := #[d,x],argTypes := #[dT,sT] })
  (v u:Value) (hd:a.eval d=v) (hx:a.eval x=u) {v' : Value} {w' : World} (hr:(Builtin.copy_ #[dT,sT] o.type #[v,u]).run P w = .ok v' w') (hK:K (a.put o.dst v') w') :
  if Region.wanted o (yielded ops a.tmps)=true then Oper.wp P o a w K Q else E:=by
 have hw:Region.wanted o (yielded ops a.tmps)=true:=by simp [Region.wanted,hg]
 rw [if_pos hw]
 unfold Oper.wp
 simp [execOp,hop,resolve,invoke,builtin,hd,hx,hr,Result.andThen]
 exact hK
end
section
open Go.RowKit
theorem Xcl (b:Nat) (vs:List Value) (o:Nat) (w:World) (h:∀j,j < vs.length→(w.cell? ⟨b,o+j,none⟩).isSome=true) (k:Nat) (hk:(w.cell? ⟨b,k,none⟩).isSome=true):((w.setCells b o vs).cell? ⟨b,k,none⟩).isSome=true:=by
 by_cases hin:o≤k∧k < o+vs.length
 ·have:=World.cell?_setCells_in b vs o w h (k - o) O_
  rw [show o+(k - o)=k by omega] at this
  rw [this];rfl
 ·rw [World.cell?_setCells_out b vs o w ⟨b,k,none⟩ (fun _ _=>by show k < o∨o+vs.length≤k;omega)]
  exact hk
theorem uFrm:Tryz.prog.underlying 36=some (.slice 59):=K_
theorem Xqz (b n c i vb vc:Nat) (cs vs:List Value) (w:World) (hi:i < n) (hroom:n+1≤c) (hc63:c≤9223372036854775807) (hvb:vb≠b)
  (hcl:cs.length=n * 3) (hvl:vs.length=3)
  (hcs:∀j v,cs[j]? = some v→w.cell? ⟨b,j,none⟩=some v) (hsp:∀j,j < (n+1) * 3→(w.cell? ⟨b,j,none⟩).isSome=true) (hfz:∀j,j < (n+1) * 3→w.frozen? ⟨b,j,none⟩=false)
  (hvs:∀j v,vs[j]? = some v→w.cell? ⟨vb,j,none⟩=some v) (h1c:∀v∈cs,v.oneCell' = true) (h1v:∀v∈vs,v.oneCell' = true)
  (tA tB:TypeId) (kA kB:Nat) (hsa:w.shape? vb=some (tA,kA)) (hsb:w.shape? b=some (tB,kB)) (hkB:kB≠0) (hfa:w.frozen? ⟨vb,0,none⟩=false) (hfe:w.frozen? ⟨vb,kA,none⟩=false) :
  Calls Tryz.prog 74 #[.slice (some ⟨b,0,none⟩) n c, .int .i64 i, .slice (some ⟨vb,0,none⟩) 1 vc] w fun e w' =>
   e = .returned (.slice (some ⟨b,0,none⟩) (n+1) c)∧w' = (w.drew.setCells b ((i+1) * 3) (cs.drop (i * 3))).setCells b (i * 3) vs:=by
 have hz2:¬((i:Int)=(n:Int)):=O_
 have hsz:(Tryz.prog.info? 59).map (·.size)=some 3:=K_
 have hov:∀lb cb,(callFunc 87 #[.slice (some ⟨vb,0,none⟩) 1 vc, .slice (some ⟨b,(i+1) * 3,none⟩) lb cb]).run Tryz.prog w = .ok (.value (.bool false)) w:=fun lb cb=>by
  rw [run_callFunc_extern Tryz.func87 K_ K_ K_ (e:=Extern.SlicesOverlaps.overlaps #[36,36] #[4]) K_,
   Lib.run_overlaps_apart w 36 4 59 uFrm 3 (fun w=>by kernel_rfl) ⟨vb,0,none⟩ ⟨b,(i+1) * 3,none⟩ 1 vc lb cb hvb tA tB kA kB hsa hsb hkB hfa hfe]
  rfl
 have hdl:(cs.drop (i * 3)).length=(n - i) * 3:=by rw [L_,hcl];omega
 have hw1:IntKind.i64.wrap ((i:Int)+1)=(i:Int)+1:=by rw [IntKind.wrap_i64];omega
 have hb1:(0:Int)≤(i:Int)+1:=O_
 have hin:i≤n:=O_
 have htn:((i:Int)+1).toNat=i+1:=O_
 have hb2:¬(c=i+1):=O_
 have hb3:(i:Int)≤(n:Int)+1:=O_
 have hb4:¬(c=i):=O_
 have hcp1:∀ty dc sc,(Builtin.copy_ #[36,36] ty #[.slice (some ⟨b,(i+1) * 3,none⟩) (n - i) dc, .slice (some ⟨b,i * 3,none⟩) (n+1 - i) sc]).run Tryz.prog w.drew = .ok (goInt (n - i:Nat)) (w.drew.setCells b ((i+1) * 3) (cs.drop (i * 3))):=fun ty dc sc=>
  X8e w.drew _ _ ty 59 b ((i+1) * 3) (n - i) dc ⟨b,i * 3,none⟩ (n+1 - i) sc (n - i) 3 (cs.drop (i * 3)) uFrm hsz (by simp only [Nat.min_def];split<;>omega) hdl
   (fun j v hj=>by rw [Addr.add_lit];exact hcs (i * 3+j) v (by rwa [List.getElem?_drop] at hj))
   (fun j hj=>hsp _ O_) (fun j hj=>hfz _ O_) (fun v hv=>h1c v (List.mem_of_mem_drop hv))
 obtain ⟨W1,hW1⟩:∃W1,W1=w.drew.setCells b ((i+1) * 3) (cs.drop (i * 3)):=⟨_,rfl⟩
 have hsp1:∀k,k < (n+1) * 3→(W1.cell? ⟨b,k,none⟩).isSome=true:=fun k hk=>by
  rw [hW1]
  exact Xcl b (cs.drop (i * 3)) ((i+1) * 3) w.drew (fun j hj=>hsp _ O_) k (hsp k hk)
 have hcp2:∀(W:World),(∀x,W.cell? x=W1.cell? x)→(∀x,W.frozen? x=W1.frozen? x)→∀ty dc,(Builtin.copy_ #[36,36] ty #[.slice (some ⟨b,i * 3,none⟩) (n+1 - i) dc, .slice (some ⟨vb,0,none⟩) 1 vc]).run Tryz.prog W = .ok (goInt (1:Nat)) (W.setCells b (i * 3) vs):=fun W hWc hWf ty dc=>
  X8e W _ _ ty 59 b (i * 3) (n+1 - i) dc ⟨vb,0,none⟩ 1 vc 1 3 vs uFrm hsz (by simp only [Nat.min_def];split<;>omega) O_
   (fun j v hj=>by
    rw [Addr.add_lit,hWc,hW1,World.cell?_setCells_out b _ _ _ _ (fun h _=>absurd h hvb),Nat.zero_add]
    exact hvs j v hj)
   (fun j hj=>by rw [hWc];exact hsp1 _ O_) (fun j hj=>by rw [hWf,hW1,World.frozen?_setCells];exact hfz _ O_) h1v
 rw [←hW1] at hcp1
 go_enter Tryz.func74,Tryz.ntmps74
 go_wp2_with (simp only [hov])
 go_region_law (refine Xee rfl _ _ 36 36 rfl _ _ (by simp [Act.eval,Act.put]) (by simp [Act.eval,Act.put]) (hcp1 _ _ _) ?_)
 go_wp2_with (at_builtin;refine X5o _ rfl _ _ 36 36 rfl _ _ rfl rfl (hcp2 _ (fun _=>rfl) (fun _=>rfl) _ _) ?_)
 go_ret
 first|exact ⟨rfl,rfl⟩|exact ⟨rfl,by rw [hW1]⟩
theorem Y4e:∃i z,Tryz.prog.info? 59=some i∧i.zero=some z∧i.size=3∧i.bytes=32∧z.cells.size=3:=by
 have h:((Tryz.prog.info? 59).bind fun i=>i.zero.map fun z=>(i.size,i.bytes,z.cells.size))=some (3,32,3):=K_
 obtain ⟨i,hi,h1⟩:=Option.bind_eq_some_iff.1 h
 obtain ⟨z,hz,h2⟩:=Option.map_eq_some_iff.1 h1
 simp only [Prod.mk.injEq] at h2
 exact ⟨i,z,hi,hz,h2.1,h2.2.1,h2.2.2⟩
theorem Xi3 (b n c vb vc:Nat) (vs:List Value) (w:World) (hroom:n+1≤c) (hc63:c≤9223372036854775807)
  (hvl:vs.length=3) (hsp:∀j,j < 3→(w.cell? ⟨b,n * 3+j,none⟩).isSome=true) (hfz:∀j,j < 3→w.frozen? ⟨b,n * 3+j,none⟩=false)
  (hvs:∀j v,vs[j]? = some v→w.cell? ⟨vb,j,none⟩=some v) (h1v:∀v∈vs,v.oneCell' = true) :
  Calls Tryz.prog 74 #[.slice (some ⟨b,0,none⟩) n c, .int .i64 n, .slice (some ⟨vb,0,none⟩) 1 vc] w fun e w' =>
   e = .returned (.slice (some ⟨b,0,none⟩) (n+1) c)∧w' = w.setCells b (n * 3) vs:=by
 obtain ⟨i0,z,hi0,hz0,hzs,hzb,hzc⟩:=Y4e
 have hsrc:Src Tryz.prog i0.size 36 (.slice (some ⟨vb,0,none⟩) 1 vc) 1 vs w:=by
  rw [hzs];exact Src.ofSlice w uFrm ⟨vb,0,none⟩ 1 vc vs O_ (fun j u hj=>by rw [Addr.add_lit,Nat.zero_add];exact hvs j u hj) h1v
 have hrun:=fun ty=>run_append_room_src (P:=Tryz.prog) (w:=w) 36 36 ty 59 i0 uFrm hi0 b 0 n c _ 1 vs hsrc hroom (by rw [hzs,hvl];simpa using hsp) (by rw [hzs,hvl];simpa using hfz)
 rw [hzs,Nat.zero_add] at hrun
 go_enter Tryz.func74,Tryz.ntmps74
 go_wp2_with (at_builtin;refine Lib.wpList_append_run _ rfl _ _ _ _ rfl _ _ rfl rfl _ _ (hrun _) ?_)
 go_ret
 exact ⟨rfl,rfl⟩
theorem X9z (base:Option Addr) (n c vb vc:Nat) (cs vs:List Value) (w:World) (hnc:n≤c) (hroom:c < n+1) (hbig:(n+1) * 32≤140737488355328)
  (hcl:cs.length=n * 3) (hvl:vs.length=3) (hnil:base=none→n=0)
  (hcs:∀a,base=some a→∀j v,cs[j]? = some v→w.cell? (a.add j)=some v)
  (hvs:∀j v,vs[j]? = some v→w.cell? ⟨vb,j,none⟩=some v) (h1v:∀v∈vs,v.oneCell' = true) :
  Calls Tryz.prog 74 #[.slice base n c, .int .i64 n, .slice (some ⟨vb,0,none⟩) 1 vc] w fun e w' =>
   ∃ROW:Array Value,cs ++ vs=ROW.toList.take ((n+1) * 3)∧ROW.size=grownCap w (n+1) c 59 * 3∧e = .returned (.slice (some ⟨w.heap.size,0,none⟩) (n+1) (grownCap w (n+1) c 59)) ∧
   w' = (w.alloc (.cells ROW 59)).drew:=by
 obtain ⟨i0,z,hi0,hz0,hzs,hzb,hzc⟩:=Y4e
 have hsrc:Src Tryz.prog i0.size 36 (.slice (some ⟨vb,0,none⟩) 1 vc) 1 vs w:=by
  rw [hzs];exact Src.ofSlice w uFrm ⟨vb,0,none⟩ 1 vc vs O_ (fun j u hj=>by rw [Addr.add_lit,Nat.zero_add];exact hvs j u hj) h1v
 have hold:(Builtin.firstCells i0.size n (.slice base n c)).run Tryz.prog w.drew = .ok cs.toArray w.drew:=by
  rw [hzs]
  cases base with
  |none=>
   have h0:=hnil rfl
   subst h0
   rw [List.length_eq_zero_iff.1 hcl]
   exact run_firstCells_none w.drew 3 0 0 c
  |some a=>exact run_firstCells_some w.drew 3 n a n c cs hcl (fun j v hj=>hcs a rfl j v hj)
 have hrun:∀ty,(Builtin.append_ #[36,36] ty #[.slice base n c, .slice (some ⟨vb,0,none⟩) 1 vc]).run Tryz.prog w = .ok (.slice (some ⟨w.heap.size,0,none⟩) (n+1) (grownCap w (n+1) c 59)) ((w.alloc (.cells ((cs ++ vs).toArray ++ Builtin.zeroCells z.cells (grownCap w (n+1) c 59 - (n+1))) 59)).drew):=fun ty=>
  run_append_grow_src w 36 36 ty 59 i0 _ uFrm hi0 hz0 base n c cs hold _ 1 vs hsrc hroom O_ (by rw [hzb];exact growslice_fits hroom hbig)
 obtain ⟨ROW,hROW⟩:∃ROW:Array Value,ROW=(cs ++ vs).toArray ++ Builtin.zeroCells z.cells (grownCap w (n+1) c 59 - (n+1)):=⟨_,rfl⟩
 rw [←hROW] at hrun
 have hGn:n+1≤grownCap w (n+1) c 59:=grownCap_ge w _ _ _
 have hRs:ROW.size=grownCap w (n+1) c 59 * 3:=by
  rw [hROW]
  have hzcl:∀q,(Builtin.zeroCells z.cells q).size=q * 3:=fun q=>by simp [Builtin.zeroCells,hzc]
  simp only [Array.size_append,hzcl,List.size_toArray,A_,hcl,hvl]
  omega
 have hRt:cs ++ vs=ROW.toList.take ((n+1) * 3):=by
  rw [hROW,Array.toList_append]
  exact (List.take_left' (l₁:=cs ++ vs) (by rw [A_];omega)).symm
 refine Calls.mono ?_ (fun e w' h=>⟨ROW,hRt,hRs,h⟩)
 clear hROW hRt hRs hold
 go_enter Tryz.func74,Tryz.ntmps74
 cases base with
 |none=>
  have h0:=hnil rfl
  subst h0
  go_wp2_with (at_builtin;refine Lib.wpList_append_run _ rfl _ _ _ _ rfl _ _ rfl rfl _ _ (hrun _) ?_)
  go_ret
  exact ⟨rfl,rfl⟩
 |some a=>
  obtain ⟨ab,ao,asp⟩:=a
  go_wp2_with (at_builtin;refine Lib.wpList_append_run _ rfl _ _ _ _ rfl _ _ rfl rfl _ _ (hrun _) ?_)
  all_goals (go_ret;exact ⟨rfl,rfl⟩)
theorem Xwg (b n c i vb vc:Nat) (cs vs:List Value) (w:World) (hi:i < n) (hnc:n≤c) (hroom:c < n+1) (hbig:(n+1) * 32≤140737488355328)
  (hcl:cs.length=n * 3) (hvl:vs.length=3)
  (hcs:∀j v,cs[j]? = some v→w.cell? ⟨b,j,none⟩=some v)
  (hvs:∀j v,vs[j]? = some v→w.cell? ⟨vb,j,none⟩=some v) (h1c:∀v∈cs,v.oneCell' = true) (h1v:∀v∈vs,v.oneCell' = true) :
  Calls Tryz.prog 74 #[.slice (some ⟨b,0,none⟩) n c, .int .i64 i, .slice (some ⟨vb,0,none⟩) 1 vc] w fun e w' =>
   ∃ROW:Array Value,(cs.take (i * 3))=(ROW.toList.take (i * 3))∧ROW.size=grownCap w (n+1) c 59 * 3∧e = .returned (.slice (some ⟨w.heap.size,0,none⟩) (n+1) (grownCap w (n+1) c 59)) ∧
   w' = (((w.alloc (.cells ROW 59)).drew.setCells w.heap.size (i * 3) vs).drew).setCells w.heap.size ((i+1) * 3) (cs.drop (i * 3)):=by
 obtain ⟨i0,z,hi0,hz0,hzs,hzb,hzc⟩:=Y4e
 have hz2:¬((i:Int)=(n:Int)):=O_
 have hz3:(c:Int) < (n:Int)+1:=O_
 have hsz:(Tryz.prog.info? 59).map (·.size)=some 3:=K_
 have hbw:b < w.heap.size:=block_lt_of_cell (hcs 0 _ (E_ O_))
 have hvw:vb < w.heap.size:=block_lt_of_cell (hvs 0 _ (E_ O_))
 have hkk:(n:Int)+1 - (i:Int)=((n+1 - i:Nat):Int):=O_
 have hik:i+(n+1 - i)=n+1:=O_
 have hold:(Builtin.firstCells i0.size i (.slice (some ⟨b,0,none⟩) i c)).run Tryz.prog w.drew = .ok (cs.take (i * 3)).toArray w.drew:=by
  rw [hzs]
  exact run_firstCells_some w.drew 3 i ⟨b,0,none⟩ i c (cs.take (i * 3)) (by rw [T_];omega) (fun j v hj=>by
   rw [Addr.add_lit,Nat.zero_add]
   rw [List.getElem?_take] at hj
   split at hj
   ·exact hcs j v hj
   ·cases hj)
 have hrz:∀ty,(Builtin.append_ #[36,3] ty #[.slice (some ⟨b,0,none⟩) i c, .int .i64 ((n:Int)+1 - (i:Int))]).run Tryz.prog w =
   .ok (.slice (some ⟨w.heap.size,0,none⟩) (n+1) (grownCap w (n+1) c 59)) (w.drew.alloc (.cells ((cs.take (i * 3)).toArray ++ Builtin.zeroCells z.cells (n+1 - i) ++ Builtin.zeroCells z.cells (grownCap w (n+1) c 59 - (n+1))) 59)):=fun ty=>by
  have h:=Lib.run_append_grow_zeros w 36 3 ty 59 i0 _ .i64 .i64 uFrm K_ hi0 hz0 (some ⟨b,0,none⟩) i c (cs.take (i * 3)) hold (n+1 - i) O_ O_ O_ O_ (by rw [hzb];omega) (by rw [hzb,hik];exact growslice_fits hroom hbig)
  rw [hik] at h
  rw [hkk]
  exact h
 obtain ⟨G,hG⟩:∃G,G=grownCap w (n+1) c 59:=⟨_,rfl⟩
 have hGn:n+1≤G:=by rw [hG];exact grownCap_ge w _ _ _
 have hG63:G≤9223372036854775807:=by
  have:=grownCap_le_maxLen w (n+1) c 59 (by unfold maxLen;omega)
  rw [←hG] at this
  unfold maxLen at this
  omega
 obtain ⟨ROW,hROW⟩:∃ROW:Array Value,ROW=(cs.take (i * 3)).toArray ++ Builtin.zeroCells z.cells (n+1 - i) ++ Builtin.zeroCells z.cells (G - (n+1)):=⟨_,rfl⟩
 rw [←hG] at hrz ⊢
 rw [←hROW] at hrz
 have hzcl:∀q,(Builtin.zeroCells z.cells q).size=q * 3:=fun q=>by simp [Builtin.zeroCells,hzc]
 have hRs:ROW.size=G * 3:=by
  rw [hROW]
  simp only [Array.size_append,hzcl,List.size_toArray,T_]
  omega
 have hRt:(cs.take (i * 3))=(ROW.toList.take (i * 3)):=by
  rw [hROW,Array.toList_append,Array.toList_append,List.append_assoc]
  exact (List.take_left' (l₁:=cs.take (i * 3)) (by rw [T_];omega)).symm
 have hRl:(n+1) * 3≤ROW.size:=O_
 refine Calls.mono ?_ (fun e w' h=>⟨ROW,hRt,hRs,h⟩)
 obtain ⟨W1,hW1⟩:∃W1,W1=w.drew.alloc (.cells ROW 59):=⟨_,rfl⟩
 rw [←hW1] at hrz
 have hN:∀j,j < (n+1) * 3→(W1.cell? ⟨w.heap.size,j,none⟩).isSome=true:=fun j hj=>by
  rw [hW1,World.cell?_alloc_at (w:=w.drew) ROW _ w.heap.size j rfl,Array.getElem?_eq_getElem O_];rfl
 have hNf:∀j,W1.frozen? ⟨w.heap.size,j,none⟩=false:=fun j=>by rw [hW1];exact World.frozen?_alloc_at (w:=w.drew) ROW _ w.heap.size j rfl
 have hOb:∀j v,w.cell? ⟨b,j,none⟩=some v→W1.cell? ⟨b,j,none⟩=some v:=fun j v h=>by rw [hW1,World.cell?_alloc_past (w:=w.drew) _ b j hbw];exact h
 have hOv:∀j v,w.cell? ⟨vb,j,none⟩=some v→W1.cell? ⟨vb,j,none⟩=some v:=fun j v h=>by rw [hW1,World.cell?_alloc_past (w:=w.drew) _ vb j hvw];exact h
 have hcpA:∀(W:World),(∀x,W.cell? x=W1.cell? x)→(∀x,W.frozen? x=W1.frozen? x)→∀ty dc,(Builtin.copy_ #[36,36] ty #[.slice (some ⟨w.heap.size,i * 3,none⟩) (n+1 - i) dc, .slice (some ⟨vb,0,none⟩) 1 vc]).run Tryz.prog W = .ok (goInt (1:Nat)) (W.setCells w.heap.size (i * 3) vs):=fun W hWc hWf ty dc=>
  X8e W _ _ ty 59 w.heap.size (i * 3) (n+1 - i) dc ⟨vb,0,none⟩ 1 vc 1 3 vs uFrm hsz (by simp only [Nat.min_def];split<;>omega) O_
   (fun j v hj=>by rw [Addr.add_lit,Nat.zero_add,hWc];exact hOv _ v (hvs j v hj))
   (fun j hj=>by rw [hWc];exact hN _ O_) (fun j hj=>by rw [hWf];exact hNf _) h1v
 have hGi:¬(G=i):=O_
 have hGim:¬(G=i+1):=O_
 have hci:¬(c=i):=O_
 have hbN:b≠w.heap.size:=O_
 have hdl:(cs.drop (i * 3)).length=(n - i) * 3:=by rw [L_,hcl];omega
 have hcpB:∀(W:World),(∀x,W.cell? x=(W1.setCells w.heap.size (i * 3) vs).cell? x)→(∀x,W.frozen? x=(W1.setCells w.heap.size (i * 3) vs).frozen? x)→∀ty dc sc,(Builtin.copy_ #[36,36] ty #[.slice (some ⟨w.heap.size,(i+1) * 3,none⟩) (n - i) dc, .slice (some ⟨b,i * 3,none⟩) (n - i) sc]).run Tryz.prog W = .ok (goInt (n - i:Nat)) (W.setCells w.heap.size ((i+1) * 3) (cs.drop (i * 3))):=fun W hWc hWf ty dc sc=>
  X8e W _ _ ty 59 w.heap.size ((i+1) * 3) (n - i) dc ⟨b,i * 3,none⟩ (n - i) sc (n - i) 3 (cs.drop (i * 3)) uFrm hsz (by simp only [Nat.min_def];split<;>omega) hdl
   (fun j v hj=>by
    rw [Addr.add_lit,hWc,World.cell?_setCells_out _ _ _ _ _ (fun h _=>absurd h hbN)]
    exact hOb _ v (hcs (i * 3+j) v (by rwa [List.getElem?_drop] at hj)))
   (fun j hj=>by rw [hWc];exact Xcl w.heap.size vs (i * 3) W1 (fun t ht=>hN _ O_) _ (hN _ O_))
   (fun j hj=>by rw [hWf,World.frozen?_setCells];exact hNf _) (fun v hv=>h1c v (List.mem_of_mem_drop hv))
 subst hW1
 have hE1:∀x,((w.alloc (.cells ROW 59)).drew).cell? x=(w.drew.alloc (.cells ROW 59)).cell? x:=fun x=>rfl
 have hE2:∀x,((w.alloc (.cells ROW 59)).drew).frozen? x=(w.drew.alloc (.cells ROW 59)).frozen? x:=fun x=>rfl
 have hF1:∀x,(((w.alloc (.cells ROW 59)).drew.setCells w.heap.size (i * 3) vs).drew).cell? x=((w.drew.alloc (.cells ROW 59)).setCells w.heap.size (i * 3) vs).cell? x:=fun x=>rfl
 have hF2:∀x,(((w.alloc (.cells ROW 59)).drew.setCells w.heap.size (i * 3) vs).drew).frozen? x=((w.drew.alloc (.cells ROW 59)).setCells w.heap.size (i * 3) vs).frozen? x:=fun x=>rfl
 have hw1:IntKind.i64.wrap ((i:Int)+1)=(i:Int)+1:=by rw [IntKind.wrap_i64];omega
 have hb1:(0:Int)≤(i:Int)+1:=O_
 have hin:i≤n:=O_
 have htn:((i:Int)+1).toNat=i+1:=O_
 have hb3:(i:Int)≤(n:Int):=O_
 clear hkk hik hold hROW hG hRl hRt hRs hzcl
 go_enter Tryz.func74,Tryz.ntmps74
 go_wp2_with (first
  |(at_builtin;refine Lib.wpList_append_run _ rfl _ _ _ _ rfl _ _ rfl rfl _ _ (hrz _) ?_)
  |(at_builtin;refine X5o _ rfl _ _ 36 36 rfl _ _ rfl rfl (hcpA _ hE1 hE2 _ _) ?_)
  |(at_builtin;refine X5o _ rfl _ _ 36 36 rfl _ _ rfl rfl (hcpB _ (fun _=>rfl) (fun _=>rfl) _ _ _) ?_))
 go_region_law (refine Xee rfl _ _ 36 36 rfl (.slice (some ⟨w.heap.size,(i+1) * 3,none⟩) (n - i) (G - (i+1))) (.slice (some ⟨b,i * 3,none⟩) (n - i) (c - i)) (by simp [Act.eval,Act.put]) (by simp [Act.eval,Act.put]) (hcpB _ hF1 hF2 3 (G - (i+1)) (c - i)) ?_)
 go_wp2
 go_ret
 exact ⟨rfl,rfl⟩
def tyF:TyI := { size:=1,agg:=false,kind:=.func,zero := [.val .nilFunc],eqs := [] }
def tyP:TyI := { size:=1,agg:=false,kind:=.ptr,zero := [.val (.pointer none)],eqs := [] }
def X9l:Tab := [
 none,
 some tyF,
 some { size:=1,agg:=false,kind:=.int .i64,zero := [.val (.int .i64 0)],eqs := [] },
 some { size:=1,agg:=false,kind:=.int .i64,zero := [.val (.int .i64 0)],eqs := [] },
 some { size:=1,agg:=false,kind:=.bool,zero := [.val (.bool false)],eqs := [] },
 some { size:=1,agg:=false,kind:=.int .u8,zero := [.val (.int .u8 0)],eqs := [] },
 some { size:=1,agg:=false,kind:=.int .u8,zero := [.val (.int .u8 0)],eqs := [] },
 some { size:=4,agg:=true,kind:=.struct [(0,1,false),(1,1,false),(2,1,false),(3,1,false)],zero := [.val (.int .i64 0), .val (.int .i64 0), .val (.bool false), .val (.int .u8 0)],eqs := [.int, .int, .bool, .int] },
 some { size:=4,agg:=true,kind:=.struct [(0,1,false),(1,1,false),(2,1,false),(3,1,false)],zero := [.val (.int .i64 0), .val (.int .i64 0), .val (.bool false), .val (.int .u8 0)],eqs := [.int, .int, .bool, .int] },
 some { size:=1,agg:=false,kind:=.str,zero := [.val (.string { data:={ toList := [] } })],eqs := [] },
 some { size:=1,agg:=false,kind:=.str,zero := [.val (.string { data:={ toList := [] } })],eqs := [] },
 some { size:=1,agg:=false,kind:=.str,zero := [.val (.string { data:={ toList := [] } })],eqs := [] },
 some { size:=1,agg:=false,kind:=.int .u64,zero := [.val (.int .u64 0)],eqs := [] },
 some { size:=2,agg:=true,kind:=.struct [(0,1,false),(1,1,false)],zero := [.val (.string { data:={ toList := [] } }), .val (.int .u64 0)],eqs := [] },
 some { size:=2,agg:=true,kind:=.struct [(0,1,false),(1,1,false)],zero := [.val (.string { data:={ toList := [] } }), .val (.int .u64 0)],eqs := [] },
 some tyP,
 some tyP,
 some tyP,
 some { size:=1,agg:=true,kind:=.struct [(0,1,false)],zero := [.val (.pointer none)],eqs := [] },
 some { size:=1,agg:=true,kind:=.struct [(0,1,false)],zero := [.val (.pointer none)],eqs := [] },
 some { size:=1,agg:=false,kind:=.other,zero := [.val .nilIface],eqs := [] },
 some { size:=1,agg:=false,kind:=.int .i32,zero := [.val (.int .i32 0)],eqs := [] },
 some { size:=1,agg:=false,kind:=.int .u16,zero := [.val (.int .u16 0)],eqs := [] },
 some { size:=1,agg:=false,kind:=.slice 40 4 40 [.val (.int .u8 0), .val (.int .i64 0), .val (.string { data:={ toList := [] } }), .val (.bool false)],zero := [.nilsl],eqs := [] },
 some tyF,
 some tyF,
 some tyP,
 some tyF,
 some tyP,
 some { size:=1,agg:=false,kind:=.int .i64,zero := [.val (.int .i64 0)],eqs := [] },
 none,
 some tyF,
 some tyF,
 some { size:=1,agg:=false,kind:=.slice 9 1 16 [.val (.string { data:={ toList := [] } })],zero := [.nilsl],eqs := [] },
 some { size:=2,agg:=true,kind:=.struct [(0,1,false),(1,1,false)],zero := [.nilsl, .val (.int .i64 0)],eqs := [] },
 some { size:=2,agg:=true,kind:=.struct [(0,1,false),(1,1,false)],zero := [.nilsl, .val (.int .i64 0)],eqs := [] },
 some { size:=1,agg:=false,kind:=.slice 59 3 32 [.val (.bool false), .val (.int .i64 0), .val (.string { data:={ toList := [] } })],zero := [.nilsl],eqs := [] },
 some { size:=4,agg:=true,kind:=.struct [(0,2,true),(2,1,false),(3,1,false)],zero := [.nilsl, .val (.int .i64 0), .nilsl, .val (.int .i64 0)],eqs := [] },
 some { size:=4,agg:=true,kind:=.struct [(0,2,true),(2,1,false),(3,1,false)],zero := [.nilsl, .val (.int .i64 0), .nilsl, .val (.int .i64 0)],eqs := [] },
 some { size:=4,agg:=true,kind:=.struct [(0,1,false),(1,1,false),(2,1,false),(3,1,false)],zero := [.val (.int .u8 0), .val (.int .i64 0), .val (.string { data:={ toList := [] } }), .val (.bool false)],eqs := [.int, .int, .str, .bool] },
 some { size:=4,agg:=true,kind:=.struct [(0,1,false),(1,1,false),(2,1,false),(3,1,false)],zero := [.val (.int .u8 0), .val (.int .i64 0), .val (.string { data:={ toList := [] } }), .val (.bool false)],eqs := [.int, .int, .str, .bool] },
 some tyF,
 some tyF,
 some tyF,
 some tyF,
 none,
 some tyF,
 some tyF,
 some tyF,
 some tyP,
 none,
 some tyF,
 some { size:=2,agg:=true,kind:=.struct [(0,1,false),(1,1,false)],zero := [.val (.int .i64 0), .nilsl],eqs := [] },
 some { size:=2,agg:=true,kind:=.struct [(0,1,false),(1,1,false)],zero := [.val (.int .i64 0), .nilsl],eqs := [] },
 some { size:=3,agg:=true,kind:=.struct [(0,2,true),(2,1,false)],zero := [.val (.int .i64 0), .nilsl, .nilsl],eqs := [] },
 some { size:=3,agg:=true,kind:=.struct [(0,2,true),(2,1,false)],zero := [.val (.int .i64 0), .nilsl, .nilsl],eqs := [] },
 some { size:=5,agg:=true,kind:=.struct [(0,3,true),(3,1,false),(4,1,false)],zero := [.val (.int .i64 0), .nilsl, .nilsl, .nilsl, .val (.int .i64 0)],eqs := [] },
 some { size:=5,agg:=true,kind:=.struct [(0,3,true),(3,1,false),(4,1,false)],zero := [.val (.int .i64 0), .nilsl, .nilsl, .nilsl, .val (.int .i64 0)],eqs := [] },
 some { size:=3,agg:=true,kind:=.struct [(0,1,false),(1,1,false),(2,1,false)],zero := [.val (.bool false), .val (.int .i64 0), .val (.string { data:={ toList := [] } })],eqs := [.bool, .int, .str] },
 some { size:=3,agg:=true,kind:=.struct [(0,1,false),(1,1,false),(2,1,false)],zero := [.val (.bool false), .val (.int .i64 0), .val (.string { data:={ toList := [] } })],eqs := [.bool, .int, .str] },
 some tyF,
 none,
 some tyF,
 some tyF,
 some tyF,
 some tyF,
 some { size:=1,agg:=false,kind:=.slice 3 1 8 [.val (.int .i64 0)],zero := [.nilsl],eqs := [] },
 some tyF,
 some tyF,
 some tyF,
 some { size:=1,agg:=false,kind:=.slice 77 2 2 [.val (.int .u8 0), .val (.int .u8 0)],zero := [.nilsl],eqs := [] },
 some tyF,
 some { size:=10,agg:=true,kind:=.struct [(0,1,false),(1,1,false),(2,1,false),(3,1,false),(4,1,false),(5,1,false),(6,1,false),(7,1,false),(8,1,false),(9,1,false)],zero := [.val (.pointer none), .val (.pointer none), .val (.pointer none), .val (.pointer none), .nilsl, .val (.int .i64 0), .nilsl, .nilsl, .nilsl, .val (.bool false)],eqs := [] },
 some { size:=10,agg:=true,kind:=.struct [(0,1,false),(1,1,false),(2,1,false),(3,1,false),(4,1,false),(5,1,false),(6,1,false),(7,1,false),(8,1,false),(9,1,false)],zero := [.val (.pointer none), .val (.pointer none), .val (.pointer none), .val (.pointer none), .nilsl, .val (.int .i64 0), .nilsl, .nilsl, .nilsl, .val (.bool false)],eqs := [] },
 some tyF,
 some tyF,
 some { size:=2,agg:=true,kind:=.struct [(0,1,false),(1,1,false)],zero := [.val (.int .u8 0), .val (.int .u8 0)],eqs := [.int, .int] },
 some { size:=2,agg:=true,kind:=.struct [(0,1,false),(1,1,false)],zero := [.val (.int .u8 0), .val (.int .u8 0)],eqs := [.int, .int] },
 some tyF,
 some tyF,
 some tyF,
 some tyF,
 some { size:=1,agg:=false,kind:=.slice 118 65 65 [.val (.int .u8 0), .val (.int .u8 0), .val (.int .u8 0), .val (.int .u8 0), .val (.int .u8 0), .val (.int .u8 0), .val (.int .u8 0), .val (.int .u8 0), .val (.int .u8 0), .val (.int .u8 0), .val (.int .u8 0), .val (.int .u8 0), .val (.int .u8 0), .val (.int .u8 0), .val (.int .u8 0), .val (.int .u8 0), .val (.int .u8 0), .val (.int .u8 0), .val (.int .u8 0), .val (.int .u8 0), .val (.int .u8 0), .val (.int .u8 0), .val (.int .u8 0), .val (.int .u8 0), .val (.int .u8 0), .val (.int .u8 0), .val (.int .u8 0), .val (.int .u8 0), .val (.int .u8 0), .val (.int .u8 0), .val (.int .u8 0), .val (.int .u8 0), .val (.int .u8 0), .val (.int .u8 0), .val (.int .u8 0), .val (.int .u8 0), .val (.int .u8 0), .val (.int .u8 0), .val (.int .u8 0), .val (.int .u8 0), .val (.int .u8 0), .val (.int .u8 0), .val (.int .u8 0), .val (.int .u8 0), .val (.int .u8 0), .val (.int .u8 0), .val (.int .u8 0), .val (.int .u8 0), .val (.int .u8 0), .val (.int .u8 0), .val (.int .u8 0), .val (.int .u8 0), .val (.int .u8 0), .val (.int .u8 0), .val (.int .u8 0), .val (.int .u8 0), .val (.int .u8 0), .val (.int .u8 0), .val (.int .u8 0), .val (.int .u8 0), .val (.int .u8 0), .val (.int .u8 0), .val (.int .u8 0), .val (.int .u8 0), .val (.bool false)],zero := [.nilsl],eqs := [] },
 some { size:=1,agg:=false,kind:=.map 3 120,zero := [.val (.map none)],eqs := [] },
 some { size:=5,agg:=true,kind:=.struct [(0,1,false),(1,1,false),(2,1,false),(3,1,false),(4,1,false)],zero := [.nilsl, .val (.map none), .val (.int .i64 0), .val (.int .i64 0), .val (.bool false)],eqs := [] },
 some { size:=5,agg:=true,kind:=.struct [(0,1,false),(1,1,false),(2,1,false),(3,1,false),(4,1,false)],zero := [.nilsl, .val (.map none), .val (.int .i64 0), .val (.int .i64 0), .val (.bool false)],eqs := [] },
 some tyP,
 some { size:=3,agg:=true,kind:=.struct [(0,1,false),(1,1,false),(2,1,false)],zero := [.val (.pointer none), .val (.pointer none), .val (.int .i64 0)],eqs := [] },
 some { size:=3,agg:=true,kind:=.struct [(0,1,false),(1,1,false),(2,1,false)],zero := [.val (.pointer none), .val (.pointer none), .val (.int .i64 0)],eqs := [] },
 none,
 some tyF,
 none,
 some tyF,
 some tyF,
 some { size:=4,agg:=true,kind:=.struct [(0,1,false),(1,1,false),(2,1,false),(3,1,false)],zero := [.val (.int .i64 0), .val (.int .i64 0), .val (.string { data:={ toList := [] } }), .nilsl],eqs := [] },
 some { size:=4,agg:=true,kind:=.struct [(0,1,false),(1,1,false),(2,1,false),(3,1,false)],zero := [.val (.int .i64 0), .val (.int .i64 0), .val (.string { data:={ toList := [] } }), .nilsl],eqs := [] },
 some { size:=7,agg:=true,kind:=.struct [(0,3,true),(3,4,true)],zero := [.val (.pointer none), .val (.pointer none), .val (.int .i64 0), .val (.int .i64 0), .val (.int .i64 0), .val (.string { data:={ toList := [] } }), .nilsl],eqs := [] },
 some { size:=7,agg:=true,kind:=.struct [(0,3,true),(3,4,true)],zero := [.val (.pointer none), .val (.pointer none), .val (.int .i64 0), .val (.int .i64 0), .val (.int .i64 0), .val (.string { data:={ toList := [] } }), .nilsl],eqs := [] },
 some tyF,
 none,
 some tyF,
 some tyF,
 some { size:=1,agg:=false,kind:=.slice 134 65 72 [.val (.int .i64 0), .val (.int .u8 0), .val (.int .u8 0), .val (.int .u8 0), .val (.int .u8 0), .val (.int .u8 0), .val (.int .u8 0), .val (.int .u8 0), .val (.int .u8 0), .val (.int .u8 0), .val (.int .u8 0), .val (.int .u8 0), .val (.int .u8 0), .val (.int .u8 0), .val (.int .u8 0), .val (.int .u8 0), .val (.int .u8 0), .val (.int .u8 0), .val (.int .u8 0), .val (.int .u8 0), .val (.int .u8 0), .val (.int .u8 0), .val (.int .u8 0), .val (.int .u8 0), .val (.int .u8 0), .val (.int .u8 0), .val (.int .u8 0), .val (.int .u8 0), .val (.int .u8 0), .val (.int .u8 0), .val (.int .u8 0), .val (.int .u8 0), .val (.int .u8 0), .val (.int .u8 0), .val (.int .u8 0), .val (.int .u8 0), .val (.int .u8 0), .val (.int .u8 0), .val (.int .u8 0), .val (.int .u8 0), .val (.int .u8 0), .val (.int .u8 0), .val (.int .u8 0), .val (.int .u8 0), .val (.int .u8 0), .val (.int .u8 0), .val (.int .u8 0), .val (.int .u8 0), .val (.int .u8 0), .val (.int .u8 0), .val (.int .u8 0), .val (.int .u8 0), .val (.int .u8 0), .val (.int .u8 0), .val (.int .u8 0), .val (.int .u8 0), .val (.int .u8 0), .val (.int .u8 0), .val (.int .u8 0), .val (.int .u8 0), .val (.int .u8 0), .val (.int .u8 0), .val (.int .u8 0), .val (.int .u8 0), .val (.int .u8 0)],zero := [.nilsl],eqs := [] },
 some tyF,
 some tyF,
 some tyF,
 some { size:=5,agg:=true,kind:=.struct [(0,3,true),(3,2,true)],zero := [.val (.pointer none), .val (.pointer none), .val (.int .i64 0), .val (.int .i64 0), .nilsl],eqs := [] },
 some { size:=5,agg:=true,kind:=.struct [(0,3,true),(3,2,true)],zero := [.val (.pointer none), .val (.pointer none), .val (.int .i64 0), .val (.int .i64 0), .nilsl],eqs := [] },
 some { size:=4,agg:=true,kind:=.struct [(0,2,true),(2,1,false),(3,1,false)],zero := [.val (.int .i64 0), .nilsl, .nilsl, .val (.int .i64 0)],eqs := [] },
 some { size:=4,agg:=true,kind:=.struct [(0,2,true),(2,1,false),(3,1,false)],zero := [.val (.int .i64 0), .nilsl, .nilsl, .val (.int .i64 0)],eqs := [] },
 some tyF,
 none,
 some tyF,
 some tyF,
 some tyF,
 some { size:=64,agg:=true,kind:=.arr 64 5 1 false,zero:=(List.replicate 64 (.val (.int .u8 0))),eqs:=(List.replicate 64 (.int)) },
 some { size:=64,agg:=true,kind:=.arr 64 5 1 false,zero:=(List.replicate 64 (.val (.int .u8 0))),eqs:=(List.replicate 64 (.int)) },
 some { size:=65,agg:=true,kind:=.struct [(0,64,true),(64,1,false)],zero:=(List.replicate 64 (.val (.int .u8 0)) ++ [.val (.bool false)]),eqs:=(List.replicate 64 (.int) ++ [.bool]) },
 some { size:=65,agg:=true,kind:=.struct [(0,64,true),(64,1,false)],zero:=(List.replicate 64 (.val (.int .u8 0)) ++ [.val (.bool false)]),eqs:=(List.replicate 64 (.int) ++ [.bool]) },
 some tyF,
 some { size:=1,agg:=false,kind:=.slice 116 64 64 [.val (.int .u8 0), .val (.int .u8 0), .val (.int .u8 0), .val (.int .u8 0), .val (.int .u8 0), .val (.int .u8 0), .val (.int .u8 0), .val (.int .u8 0), .val (.int .u8 0), .val (.int .u8 0), .val (.int .u8 0), .val (.int .u8 0), .val (.int .u8 0), .val (.int .u8 0), .val (.int .u8 0), .val (.int .u8 0), .val (.int .u8 0), .val (.int .u8 0), .val (.int .u8 0), .val (.int .u8 0), .val (.int .u8 0), .val (.int .u8 0), .val (.int .u8 0), .val (.int .u8 0), .val (.int .u8 0), .val (.int .u8 0), .val (.int .u8 0), .val (.int .u8 0), .val (.int .u8 0), .val (.int .u8 0), .val (.int .u8 0), .val (.int .u8 0), .val (.int .u8 0), .val (.int .u8 0), .val (.int .u8 0), .val (.int .u8 0), .val (.int .u8 0), .val (.int .u8 0), .val (.int .u8 0), .val (.int .u8 0), .val (.int .u8 0), .val (.int .u8 0), .val (.int .u8 0), .val (.int .u8 0), .val (.int .u8 0), .val (.int .u8 0), .val (.int .u8 0), .val (.int .u8 0), .val (.int .u8 0), .val (.int .u8 0), .val (.int .u8 0), .val (.int .u8 0), .val (.int .u8 0), .val (.int .u8 0), .val (.int .u8 0), .val (.int .u8 0), .val (.int .u8 0), .val (.int .u8 0), .val (.int .u8 0), .val (.int .u8 0), .val (.int .u8 0), .val (.int .u8 0), .val (.int .u8 0), .val (.int .u8 0)],zero := [.nilsl],eqs := [] },
 some tyF,
 none,
 some tyF,
 none,
 some tyF,
 none,
 some tyF,
 some tyF,
 some tyF,
 some tyF,
 some tyF,
 some { size:=1,agg:=false,kind:=.slice 5 1 1 [.val (.int .u8 0)],zero := [.nilsl],eqs := [] },
 some { size:=65,agg:=true,kind:=.struct [(0,1,false),(1,64,true)],zero:=([.val (.int .i64 0)] ++ List.replicate 64 (.val (.int .u8 0))),eqs:=(List.replicate 65 (.int)) },
 some { size:=65,agg:=true,kind:=.struct [(0,1,false),(1,64,true)],zero:=([.val (.int .i64 0)] ++ List.replicate 64 (.val (.int .u8 0))),eqs:=(List.replicate 65 (.int)) },
 some tyF,
 some tyF,
 some tyF,
 some tyF,
 some tyF,
 some tyF,
 none,
 some tyF,
 some tyF,
 some tyF,
 some tyF,
 some tyF,
 some tyF,
 some tyF,
 some tyF,
 some tyF,
 some { size:=3,agg:=true,kind:=.struct [(0,1,false),(1,1,false),(2,1,false)],zero := [.val (.pointer none), .val (.int .i64 0), .val (.int .i64 0)],eqs := [] },
 some { size:=3,agg:=true,kind:=.struct [(0,1,false),(1,1,false),(2,1,false)],zero := [.val (.pointer none), .val (.int .i64 0), .val (.int .i64 0)],eqs := [] },
 some tyF,
 some tyF,
 some { size:=1,agg:=false,kind:=.int .u64,zero := [.val (.int .u64 0)],eqs := [] },
 some tyF,
 some tyF,
 some { size:=1,agg:=false,kind:=.map 3 4,zero := [.val (.map none)],eqs := [] },
 some tyF,
 some { size:=1,agg:=true,kind:=.struct [(0,1,false)],zero := [.val .nilFunc],eqs := [] },
 some { size:=1,agg:=true,kind:=.struct [(0,1,false)],zero := [.val .nilFunc],eqs := [] },
 some tyF,
 some tyF,
 some tyF,
 some tyF,
 some { size:=16,agg:=true,kind:=.arr 16 5 1 false,zero:=(List.replicate 16 (.val (.int .u8 0))),eqs:=(List.replicate 16 (.int)) },
 some { size:=16,agg:=true,kind:=.arr 16 5 1 false,zero:=(List.replicate 16 (.val (.int .u8 0))),eqs:=(List.replicate 16 (.int)) },
 some tyF,
 some tyF,
 some tyF,
 none,
 some tyF,
 some tyF,
 some { size:=1,agg:=false,kind:=.slice 161 1 8 [.val .nilFunc],zero := [.nilsl],eqs := [] },
 some tyF,
 some { size:=4,agg:=true,kind:=.arr 4 5 1 false,zero := [.val (.int .u8 0), .val (.int .u8 0), .val (.int .u8 0), .val (.int .u8 0)],eqs := [.int, .int, .int, .int] },
 some tyF,
 some tyF,
 some { size:=1,agg:=false,kind:=.int .i64,zero := [.val (.int .i64 0)],eqs := [] },
 none,
 some tyF,
 some tyF,
 some tyF,
 some tyF,
 some tyF,
 some { size:=1,agg:=false,kind:=.int .u32,zero := [.val (.int .u32 0)],eqs := [] },
 some tyF,
 some { size:=1,agg:=false,kind:=.int .u64,zero := [.val (.int .u64 0)],eqs := [] },
 some tyF,
 some { size:=8,agg:=true,kind:=.arr 8 186 1 false,zero := [.val (.int .u32 0), .val (.int .u32 0), .val (.int .u32 0), .val (.int .u32 0), .val (.int .u32 0), .val (.int .u32 0), .val (.int .u32 0), .val (.int .u32 0)],eqs := [.int, .int, .int, .int, .int, .int, .int, .int] },
 some { size:=73,agg:=true,kind:=.struct [(0,8,true),(8,64,true),(72,1,false)],zero:=(List.replicate 8 (.val (.int .u32 0)) ++ List.replicate 64 (.val (.int .u8 0)) ++ [.val (.int .u64 0)]),eqs:=(List.replicate 73 (.int)) },
 some { size:=73,agg:=true,kind:=.struct [(0,8,true),(8,64,true),(72,1,false)],zero:=(List.replicate 8 (.val (.int .u32 0)) ++ List.replicate 64 (.val (.int .u8 0)) ++ [.val (.int .u64 0)]),eqs:=(List.replicate 73 (.int)) },
 some tyF,
 some tyF,
 some tyF,
 some { size:=32,agg:=true,kind:=.arr 32 5 1 false,zero:=(List.replicate 32 (.val (.int .u8 0))),eqs:=(List.replicate 32 (.int)) },
 some tyF,
 some { size:=1,agg:=false,kind:=.int .u64,zero := [.val (.int .u64 0)],eqs := [] },
 some tyF,
 some tyF,
 some tyF,
 some tyP,
 some tyF,
 some tyF,
 some tyF,
 some tyF,
 some tyP,
 none,
 some tyF,
 some { size:=64,agg:=true,kind:=.arr 64 186 1 false,zero:=(List.replicate 64 (.val (.int .u32 0))),eqs:=(List.replicate 64 (.int)) },
 some tyF,
 some { size:=4,agg:=true,kind:=.arr 4 186 1 false,zero := [.val (.int .u32 0), .val (.int .u32 0), .val (.int .u32 0), .val (.int .u32 0)],eqs := [.int, .int, .int, .int] },
 some { size:=1,agg:=false,kind:=.slice 186 1 4 [.val (.int .u32 0)],zero := [.nilsl],eqs := [] },
 some tyF,
 some tyF,
 some tyF,
 some { size:=4,agg:=true,kind:=.struct [(0,1,false),(1,1,false),(2,1,false),(3,1,false)],zero := [.val (.pointer none), .val (.pointer none), .val (.pointer none), .val (.string { data:={ toList := [] } })],eqs := [] },
 some { size:=4,agg:=true,kind:=.struct [(0,1,false),(1,1,false),(2,1,false),(3,1,false)],zero := [.val (.pointer none), .val (.pointer none), .val (.pointer none), .val (.string { data:={ toList := [] } })],eqs := [] },
 some { size:=0,agg:=true,kind:=.arr 0 16 1 false,zero := [],eqs := [] },
 some { size:=0,agg:=true,kind:=.struct [(0,0,true)],zero := [],eqs := [] },
 some { size:=0,agg:=true,kind:=.struct [(0,0,true)],zero := [],eqs := [] },
 some { size:=1,agg:=false,kind:=.int .u8,zero := [.val (.int .u8 0)],eqs := [] },
 some { size:=1,agg:=false,kind:=.int .u8,zero := [.val (.int .u8 0)],eqs := [] },
 some tyF,
 some tyP,
 some { size:=1,agg:=false,kind:=.int .i32,zero := [.val (.int .i32 0)],eqs := [] },
 some { size:=1,agg:=false,kind:=.int .i32,zero := [.val (.int .i32 0)],eqs := [] },
 some { size:=11,agg:=true,kind:=.struct [(0,1,false),(1,1,false),(2,1,false),(3,1,false),(4,1,false),(5,1,false),(6,1,false),(7,1,false),(8,1,false),(9,1,false),(10,1,false)],zero := [.val (.int .u64 0), .val (.int .u64 0), .val (.int .u32 0), .val (.int .u8 0), .val (.int .u8 0), .val (.int .u8 0), .val (.int .u8 0), .val .nilFunc, .val (.pointer none), .val (.int .i32 0), .val (.int .i32 0)],eqs := [] },
 some { size:=11,agg:=true,kind:=.struct [(0,1,false),(1,1,false),(2,1,false),(3,1,false),(4,1,false),(5,1,false),(6,1,false),(7,1,false),(8,1,false),(9,1,false),(10,1,false)],zero := [.val (.int .u64 0), .val (.int .u64 0), .val (.int .u32 0), .val (.int .u8 0), .val (.int .u8 0), .val (.int .u8 0), .val (.int .u8 0), .val .nilFunc, .val (.pointer none), .val (.int .i32 0), .val (.int .i32 0)],eqs := [] },
 some { size:=1,agg:=false,kind:=.other,zero := [.val (.pointer none)],eqs := [] }]
theorem X6:X9l=Kf Tryz.prog:=K_
theorem Xs.weak {P:Program} {f:FuncId} {args:List PV} {q:PV} (h:Xs P f args (fun r=>Weak r q)):Xs P f args (· = q):=by
 refine ⟨h.1,fun Φ μ w vs h1 hgl h2=>(h.2 Φ μ w vs h1 hgl h2).mono ?_⟩
 rintro e w' ⟨r,v,Φ',k1,k2,k3,k4,k5,k6,k7⟩
 refine ⟨q,v,Φ',k1,rfl,k2.1 _ _ _ k3,k4,k5,k6,fun n k cs E e=>?_⟩
 have:=k2.2 (by rw [e];rfl)
 exact k7 n k cs E (by rw [←this,e])
end
section
open Go.RowKit
variable {P:Program} {T:Tab} {σ:PS} {o:Oper} {i base:Nat} {ops:Array Oper} {ok:Nat→Nat→Bool} {rest:List (Nat×Oper)} {K:PS→Prop}
theorem X5.boolS {d:Nat} {b:Bool} (hk:Y1e o.op=true) (hg:Xk ops σ o=some true) (hd:o.dst=some d) (hE:feff (presE T (Yr ops o.dst) (base+i) (σ.only (ok i)) o.op)=some (.val (.bool b))) (hb:σ.freeB (base+i)=true)
  (kt:b=true→X5 P T ops base ok rest K (σ.put d (.val (.bool true)))) (kf:b=false→X5 P T ops base ok rest K (σ.put d (.val (.bool false)))):X5 P T ops base ok ((i,o) :: rest) K σ:=by
 cases b with
 |true=>exact X5.bool true hg hd hE rfl hb (kt rfl)
 |false=>exact X5.bool false hg hd hE rfl hb (kf rfl)
theorem X5.mvC {d:Nat} {x:Operand} {p:PV} (hop:o.op = .move x) (hg:Xk ops σ o=some true) (hd:o.dst=some d) (hx' : Kj σ x=p) (hn:p.ownB=false) (hb:σ.freeB (base+i)=true) (k:X5 P T ops base ok rest K (σ.put d p)):X5 P T ops base ok ((i,o) :: rest) K σ:=by
 refine X5.valEq hg hd (p:=p) ?_ rfl hb k
 have hp:pev σ x=p:=by
  cases x with
  |tmp s=>simp only [Kj] at hx'; simp only [pev,hx'];exact PV.bare_of _ hn
  |_=>exact hx'
 simp only [hop,presE]
 split
 ·cases x with
  |tmp s=>
   simp only [Kj] at hx'
   have:(σ.only (ok i)).t s=p:=hx'
   simp only [X75,this,hn]
   simp only [Bool.false_eq_true,if_false,PV.bare_of _ hn]
  |_=>simp only [X75,Xv,hp]
 ·simp only [Xv,hp]
theorem X5.ldV {d id off:Nat} {x:Operand} {t:TypeId} {ti:TyI} {bs:List PV} {c p:PV} (hop:o.op = .load t x) (hg:Xk ops σ o=some true) (hd:o.dst=some d) (hx:pev σ x = .ptr id off) (hbs:(σ.only (ok i)).b id=some bs) (hc:bs[off]? = some c) (ht:T.at t=some ti) (ha:ti.agg=false) (hq:fval c=some p) (hn:p.ownB=false) (hb:σ.freeB (base+i)=true) (k:X5 P T ops base ok rest K (σ.put d p)):X5 P T ops base ok ((i,o) :: rest) K σ:=by
 have hq':=Zk hq
 subst hq'
 refine X5.valEq hg hd (p:=c) ?_ rfl hb k
 have h1:X0u T (Yr ops o.dst) (σ.only (ok i)).b t (.ptr id off)=none:=by
  simp only [X0u]
  split
  ·rw [hbs]
   simp only [hc]
   cases c with
   |sl n k cs own=>cases own with
    |none=>rfl
    |some E=>simp [PV.ownB] at hn
   |_=>rfl
  ·rfl
 simp only [hop,presE,Xv,hx,h1,V5,pval,ht,Zj,hbs,X6f,ha,hc,Bool.false_eq_true,if_false,Option.map_some,PV.bare_of _ hn]
theorem X0e {α:Type} {l:List α} {j:Nat} (x:α) (h:j < l.length):l[j]? = some (l.getD j x):=by
 rw [G_,E_ h];rfl
theorem X5.idxZ {d n k e by_:Nat} {z:Int} {cs zr:List PV} {own:Option TypeId} {kk:IntKind} {x ix:Operand} {t:TypeId} {ti:TyI} (hg:Xk ops σ o=some true) (hd:o.dst=some d) (hop:o.op = .indexAddr t x ix) (hx:pev σ x = .sl n k cs own) (hi:pev σ ix = .val (.int kk z)) (ht:T.at t=some ti) (hk:ti.kind = .slice e k by_ zr) (hb:σ.freeB (base+i)=true) (h0:0≤z∧z < n)
  (kn:X5 P T ops base ok rest K (σ.put d (.ep cs (z.toNat * k)))):X5 P T ops base ok ((i,o) :: rest) K σ:=
 X5.idx (j:=z.toNat) hg hd hop hx (by rw [hi,Int.toNat_of_nonneg h0.1]) ht hk hb O_ kn
theorem X5.idxZ1 {d n e by_:Nat} {z:Int} {cs zr:List PV} {own:Option TypeId} {kk:IntKind} {x ix:Operand} {t:TypeId} {ti:TyI} (hg:Xk ops σ o=some true) (hd:o.dst=some d) (hop:o.op = .indexAddr t x ix) (hx:pev σ x = .sl n 1 cs own) (hi:pev σ ix = .val (.int kk z)) (ht:T.at t=some ti) (hk:ti.kind = .slice e 1 by_ zr) (hb:σ.freeB (base+i)=true) (h0:0≤z∧z < n)
  (kn:X5 P T ops base ok rest K (σ.put d (.ep cs z.toNat))):X5 P T ops base ok ((i,o) :: rest) K σ:=
 X5.idx1 (j:=z.toNat) hg hd hop hx (by rw [hi,Int.toNat_of_nonneg h0.1]) ht hk hb O_ kn
theorem X5.ldM {α:Type} [Inhabited α] {d off:Nat} {f:α→PV} {l:List α} {q:PV} {x:Operand} {t:TypeId} {ti:TyI} (hg:Xk ops σ o=some true) (hd:o.dst=some d) (hop:o.op = .load t x) (hx:pev σ x = .ep (l.map f) off) (ht:T.at t=some ti) (ha:ti.agg=false) (hb:σ.freeB (base+i)=true) (hl:off < l.length) (hq:fval (f (l.getD off default)).bare=some q)
  (kn:X5 P T ops base ok rest K (σ.put d q)):X5 P T ops base ok ((i,o) :: rest) K σ:=
 X5.ld hg hd hop hx ht ha hb (Xla (X0e default hl)) hq kn
theorem X5.ldR {α:Type} [Inhabited α] {d j k r:Nat} {f:α→List PV} {l:List α} {c q:PV} {x:Operand} {t:TypeId} {ti:TyI} (hg:Xk ops σ o=some true) (hd:o.dst=some d) (hop:o.op = .load t x) (hx:pev σ x = .ep (l.flatMap f) (j * k+r)) (ht:T.at t=some ti) (ha:ti.agg=false) (hb:σ.freeB (base+i)=true) (hk:∀x,(f x).length=k) (hl:j < l.length) (hc:(f (l.getD j default))[r]? = some c) (hq:fval c.bare=some q)
  (kn:X5 P T ops base ok rest K (σ.put d q)):X5 P T ops base ok ((i,o) :: rest) K σ:=
 X5.ld hg hd hop hx ht ha hb (Vr hk (X0e default hl) hc) hq kn
theorem X5.ldRA {α:Type} [Inhabited α] {d j k:Nat} {f:α→List PV} {l:List α} {row:List PV} {x:Operand} {t:TypeId} {kd:TD} {zr:List PV} {es:List SK} (hg:Xk ops σ o=some true) (hd:o.dst=some d) (hop:o.op = .load t x) (hx:pev σ x = .ep (l.flatMap f) (j * k)) (ht:T.at t=some ⟨k,true,kd,zr,es⟩) (hb:σ.freeB (base+i)=true) (hk:∀x,(f x).length=k) (hl:j < l.length) (hr:X72 ((f (l.getD j default)).map PV.bare)=some row)
  (kn:X5 P T ops base ok rest K (σ.put d (.agg row))):X5 P T ops base ok ((i,o) :: rest) K σ:=by
 refine X5.ldA hg hd hop hx ht hb ?_ ?_ kn
 ·rw [Kk hk]
  have:=Nat.mul_le_mul_right k (show j+1≤l.length from hl)
  rw [Nat.succ_mul] at this;exact this
 ·rw [Vq hk (X0e default hl)];exact Zg hr
theorem X5.slcM {α:Type} {d e by_ n:Nat} {zl zh:Int} {kl kh:IntKind} {f:α→PV} {L:List α} {zr:List PV} {own:Option TypeId} {x lo hi:Operand} {t:TypeId} {ti:TyI} (hg:Xk ops σ o=some true) (hd:o.dst=some d) (hop:o.op = .slice t x (some lo) (some hi) none) (hx:pev σ x = .sl n 1 (L.map f) own) (hlo:pev σ lo = .val (.int kl zl)) (hhi:pev σ hi = .val (.int kh zh)) (ht:T.at t=some ti) (hk:ti.kind = .slice e 1 by_ zr) (hb:σ.freeB (base+i)=true)
  (h1:0≤zl∧zl≤zh∧zh≤n∧n=L.length) (kn:X5 P T ops base ok rest K (σ.put d (.sl ((L.drop zl.toNat).take (zh.toNat - zl.toNat)).length 1 (((L.drop zl.toNat).take (zh.toNat - zl.toNat)).map f) none))):X5 P T ops base ok ((i,o) :: rest) K σ:=by
 refine X5.slc zl.toNat zh.toNat hg hd hop hx ht hk hb ?_ ?_ ?_
 ·simp only [Option.map_some,hhi,Yf];rw [if_pos ⟨O_,h1.2.2.1⟩]
 ·simp only [Option.map_some,hlo,Yf];rw [if_pos ⟨h1.1,O_⟩]
 ·have:PV.sl (zh.toNat - zl.toNat) 1 (((L.map f).drop (zl.toNat * 1)).take ((zh.toNat - zl.toNat) * 1)) none = .sl ((L.drop zl.toNat).take (zh.toNat - zl.toNat)).length 1 (((L.drop zl.toNat).take (zh.toNat - zl.toNat)).map f) none:=
   Xp1 (by rw [T_,L_];omega) (by rw [Nat.mul_one,Nat.mul_one,List.map_take,List.map_drop])
  rw [this];exact kn
theorem X5.slcL {α:Type} {d e by_ n:Nat} {zl:Int} {kl:IntKind} {f:α→PV} {L:List α} {zr:List PV} {own:Option TypeId} {x lo:Operand} {t:TypeId} {ti:TyI} (hg:Xk ops σ o=some true) (hd:o.dst=some d) (hop:o.op = .slice t x (some lo) none none) (hx:pev σ x = .sl n 1 (L.map f) own) (hlo:pev σ lo = .val (.int kl zl)) (ht:T.at t=some ti) (hk:ti.kind = .slice e 1 by_ zr) (hb:σ.freeB (base+i)=true)
  (h1:0≤zl∧zl≤n∧n=L.length) (kn:X5 P T ops base ok rest K (σ.put d (.sl (L.drop zl.toNat).length 1 ((L.drop zl.toNat).map f) none))):X5 P T ops base ok ((i,o) :: rest) K σ:=by
 refine X5.slc zl.toNat n hg hd hop hx ht hk hb rfl ?_ ?_
 ·simp only [Option.map_some,hlo,Yf];rw [if_pos ⟨h1.1,O_⟩]
 ·have:PV.sl (n - zl.toNat) 1 (((L.map f).drop (zl.toNat * 1)).take ((n - zl.toNat) * 1)) none = .sl (L.drop zl.toNat).length 1 ((L.drop zl.toNat).map f) none:=
   Xp1 (by rw [L_];omega) (by rw [Nat.mul_one,Nat.mul_one,H_ (by rw [L_,List.length_map];omega),List.map_drop])
  rw [this];exact kn
theorem X5.slcH {α:Type} {d e by_ n:Nat} {zh:Int} {kh:IntKind} {f:α→PV} {L:List α} {zr:List PV} {own:Option TypeId} {x hi:Operand} {t:TypeId} {ti:TyI} (hg:Xk ops σ o=some true) (hd:o.dst=some d) (hop:o.op = .slice t x none (some hi) none) (hx:pev σ x = .sl n 1 (L.map f) own) (hhi:pev σ hi = .val (.int kh zh)) (ht:T.at t=some ti) (hk:ti.kind = .slice e 1 by_ zr) (hb:σ.freeB (base+i)=true)
  (h1:0≤zh∧zh≤n∧n=L.length) (kn:X5 P T ops base ok rest K (σ.put d (.sl (L.take zh.toNat).length 1 ((L.take zh.toNat).map f) none))):X5 P T ops base ok ((i,o) :: rest) K σ:=by
 refine X5.slc 0 zh.toNat hg hd hop hx ht hk hb ?_ rfl ?_
 ·simp only [Option.map_some,hhi,Yf];rw [if_pos ⟨h1.1,h1.2.1⟩]
 ·have:PV.sl (zh.toNat - 0) 1 (((L.map f).drop (0 * 1)).take ((zh.toNat - 0) * 1)) none = .sl (L.take zh.toNat).length 1 ((L.take zh.toNat).map f) none:=
   Xp1 (by rw [T_];omega) (by rw [Nat.mul_one,Nat.zero_mul,List.drop_zero,Nat.sub_zero,List.map_take])
  rw [this];exact kn
end
section
open Go.RowKit
theorem Vj {α:Type} {l:List α} {j:Nat} (x:α) (h:j < l.length):l.take (j+1)=l.take j ++ [l.getD j x]:=by
 rw [List.take_add_one,X0e x h];rfl
instance:Inhabited ByteArray:=⟨ByteArray.empty⟩
def Y6j:Op→Bool
 | .binOp op _ _ _ _=>match op with
  | .eql | .neq | .lss | .leq | .gtr | .geq | .add | .sub | .mul | .quo | .rem=>true
  |_=>false
 | .indexAddr .. => true
 | .slice .. => true
 | .call c=>match c.callee with
  | .builtin .len | .builtin .max | .builtin .min=>false
  |_=>true
 |_=>false
def applyE (σ:PS):Option Nat→Option Eff→Option PS
 |some d,some ⟨v,[],none,[]⟩=>match v with
  | .sl n k cs (some e)=>match X72 cs with
   |some l=>some (σ.put d (.sl n k l (some e)))
   |none=>none
  |v=>match fval v with
   |some p=>some (σ.put d p)
   |none=>none
 |some d,some ⟨v,[],some s,[]⟩=>match fval v,fval (σ.t s).bare with
  |some p,some q=>some ((σ.put s q).put d p)
  |_,_=>none
 |some d,some ⟨v,[(id,cs)],none,[]⟩=>match fval v,X72 cs with
  |some p,some l=>some ((σ.setb id l).put d p)
  |_,_=>none
 |none,some ⟨_,[(id,cs)],none,[]⟩=>match X72 cs with
  |some l=>some (σ.setb id l)
  |none=>none
 |none,some ⟨_,[(id,cs)],some s,[]⟩=>match X72 cs,fval (σ.t s).bare with
  |some l,some q=>some ((σ.put s q).setb id l)
  |_,_=>none
 |_,_=>none
def Y5x (T:Tab) (σ:PS) (ok:Nat→Bool):Op→Option PV
 | .move x=>match Xpm (Kj σ x) with
  |some p=>if p.ownB then none else some p
  |none=>none
 | .extract x i=>match pev σ x with
  | .tup vs=>match vs[i]? with
   |some c=>match Xpm c with
    |some p=>if p.ownB then none else some p
    |none=>none
   |none=>none
  |_=>none
 | .load t x=>match pev σ x with
  | .ptr id off=>match ok id,σ.b id,T.at t with
   |true,some bs,some ti=>if ti.agg then none else match bs[off]? with
    |some c=>match fval c with
     |some p=>if p.ownB then none else some p
     |none=>none
    |none=>none
   |_,_,_=>none
  |_=>none
 |_=>none
noncomputable def stepF (T:Tab) (ops:Array Oper) (base:Nat) (ok:Nat→Nat→Bool) (i:Nat) (o:Oper) (σ:PS):Option PS:=
 match Xk ops σ o with
 |some false=>match o.dst with
  |some d=>some (σ.put d (.tup []))
  |none=>none
 |some true=>
  if Y6j o.op then none
  else match σ.freeB (base+i) with
   |false=>none
   |true=>match o.dst,Y5x T σ (ok i) o.op with
    |some d,some p=>some (σ.put d p)
    |_,_=>applyE σ o.dst (presE T (Yr ops o.dst) (base+i) (σ.only (ok i)) o.op)
 |none=>none
theorem X58 {α:Type} {f:α→List PV} {k:Nat} (hk:∀x,(f x).length=k):∀(l:List α) (j:Nat),(l.flatMap f).drop (j * k)=(l.drop j).flatMap f
 |l,0=>by simp
 | [],j+1=>by simp
 |y :: l,j+1=>by
  rw [List.flatMap_cons,List.drop_succ_cons,←X58 hk l j,Nat.succ_mul,Nat.add_comm,←List.drop_drop,List.drop_left' (hk y)]
theorem X5i {α:Type} {f:α→List PV} {k:Nat} (hk:∀x,(f x).length=k):∀(l:List α) (j:Nat),(l.flatMap f).take (j * k)=(l.take j).flatMap f
 |l,0=>by simp
 | [],j+1=>by simp
 |y :: l,j+1=>by
  rw [List.flatMap_cons,List.take_succ_cons,List.flatMap_cons,←X5i hk l j,Nat.succ_mul,Nat.add_comm,List.take_add,List.take_left' (hk y),List.drop_left' (hk y)]
end
section
open Go.RowKit
variable {P:Program} {T:Tab} {σ σ' : PS} {o:Oper} {i base:Nat} {ops:Array Oper} {ok:Nat→Nat→Bool} {rest:List (Nat×Oper)} {K:PS→Prop}
theorem X5.applyE {E:Option Eff} (hg:Xk ops σ o=some true) (hE:presE T (Yr ops o.dst) (base+i) (σ.only (ok i)) o.op=E) (hb:σ.freeB (base+i)=true) (h:Go.Proofs.YtmciloafahkolaaGreatDoor.applyE σ o.dst E=some σ') (k:X5 P T ops base ok rest K σ'):X5 P T ops base ok ((i,o) :: rest) K σ:=by
 have fin:∀e,E=some e→σ.app o.dst e=σ'→X5 P T ops base ok ((i,o) :: rest) K σ:=fun e he h=>X5.step hg (hE.trans he) hb (by rw [h];exact k)
 unfold Go.Proofs.YtmciloafahkolaaGreatDoor.applyE at h
 split at h
 ·rename_i d v hd
  split at h
  ·rename_i n k' cs e
   split at h
   ·rename_i l hl
    cases h
    exact fin _ rfl (by rw [hd,Zg hl];rfl)
   ·cases h
  ·split at h
   ·rename_i p hp
    cases h
    exact fin _ rfl (by rw [hd,Zk hp];rfl)
   ·cases h
 ·rename_i d v s hd
  split at h
  ·rename_i p q hp hq
   cases h
   exact fin _ rfl (by rw [hd,Zk hp];simp only [PS.app,Zk hq];rfl)
  ·cases h
 ·rename_i d v id cs hd
  split at h
  ·rename_i p l hp hl
   cases h
   exact fin _ rfl (by rw [hd,Zk hp,Zg hl];rfl)
  ·cases h
 ·rename_i v id cs hd
  split at h
  ·rename_i l hl
   cases h
   exact fin _ rfl (by rw [hd,Zg hl];rfl)
  ·cases h
 ·rename_i v id cs s hd
  split at h
  ·rename_i l q hl hq
   cases h
   exact fin _ rfl (by rw [hd,Zg hl];simp only [PS.app,Zk hq];rfl)
  ·cases h
 ·cases h
theorem X5.stepA (h:stepF T ops base ok i o σ=some σ') (k:X5 P T ops base ok rest K σ'):X5 P T ops base ok ((i,o) :: rest) K σ:=by
 unfold stepF at h
 split at h
 ·rename_i hg
  split at h
  ·rename_i d hd
   cases h
   exact X5.pass hg hd k
  ·cases h
 ·rename_i hg
  split at h
  ·cases h
  ·split at h
   ·cases h
   ·rename_i hb
    split at h
    ·rename_i d p hd hq
     cases h
     unfold Y5x at hq
     split at hq
     ·rename_i x hop
      split at hq
      ·rename_i p' hp
       split at hq
       ·cases hq
       ·rename_i hn
        cases hq
        exact X5.mvC hop hg hd (Xap hp) (by simpa using hn) hb k
      ·cases hq
     ·rename_i x ix hop
      split at hq
      ·rename_i vs hx
       split at hq
       ·rename_i c hc
        split at hq
        ·rename_i p' hp
         split at hq
         ·cases hq
         ·rename_i hn
          cases hq
          have hcp:=Xap hp
          subst hcp
          exact X5.valEq hg hd (p:=c) (by simp only [hop,presE,V5,pval,Xv,hx,hc,Option.map_some,PV.bare_of _ (by simpa using hn:c.ownB=false)]) rfl hb k
        ·cases hq
       ·cases hq
      ·cases hq
     ·rename_i t x hop
      split at hq
      ·rename_i id off hx
       split at hq
       ·rename_i bs ti h1 h2 h3
        split at hq
        ·cases hq
        ·rename_i ha
         split at hq
         ·rename_i c hc
          split at hq
          ·rename_i p' hp
           split at hq
           ·cases hq
           ·rename_i hn
            cases hq
            exact X5.ldV hop hg hd hx (by simp only [PS.only,h1,if_true];exact h2) hc h3 (by simpa using ha) hp (by simpa using hn) hb k
          ·cases hq
         ·cases hq
       ·cases hq
      ·cases hq
     ·cases hq
    ·exact X5.applyE hg rfl hb h k
 ·cases h
theorem X5.doneI {l:List (Nat×Oper)} (h:l.isEmpty=true) (k:K σ):X5 P T ops base ok l K σ:=by
 cases l with
 |nil=>exact k
 |cons x l=>cases h
def Yay:Op→Bool
 | .binOp .quo _ _ _ _=>true
 |_=>false
def Yax:Op→Bool
 | .binOp .rem _ _ _ _=>true
 |_=>false
theorem X5.remK {d:Nat} {x y:Int} (hk:Yax o.op=true) (hg:Xk ops σ o=some true) (hd:o.dst=some d) (hE:feff (presE T (Yr ops o.dst) (base+i) (σ.only (ok i)) o.op)=some (.val (.int .i64 (x.tmod y)))) (h:0≤x∧0≤y) (hb:σ.freeB (base+i)=true) (k:X5 P T ops base ok rest K (σ.put d (.val (.int .i64 (x % y))))):X5 P T ops base ok ((i,o) :: rest) K σ:=
 X5.int _ hg hd hE (Int.tmod_eq_emod_of_nonneg h.1) hb k
theorem X5.quoK {d:Nat} {x y:Int} (hk:Yay o.op=true) (hg:Xk ops σ o=some true) (hd:o.dst=some d) (hE:feff (presE T (Yr ops o.dst) (base+i) (σ.only (ok i)) o.op)=some (.val (.int .i64 (IntKind.i64.wrap (x.tdiv y))))) (h:0≤x∧0 < y∧x≤9223372036854775807) (hb:σ.freeB (base+i)=true) (k:X5 P T ops base ok rest K (σ.put d (.val (.int .i64 (x / y))))):X5 P T ops base ok ((i,o) :: rest) K σ:=by
 have h1:x.tdiv y=x / y:=Int.tdiv_eq_ediv_of_nonneg h.1
 have h2:0≤x / y:=Int.ediv_nonneg h.1 O_
 have h3:x / y≤x:=Int.ediv_le_self _ h.1
 exact X5.int _ hg hd hE (by rw [h1,Zp O_ O_]) hb k
theorem X5.idd {l:List (Nat×Oper)} (h:X5 P T ops base ok l K σ):X5 P T ops base ok l K σ:=h
theorem PW.idd {M:Nat} {c:Code} {Q:Exit→PS→Prop} (h:PW P M c Q σ):PW P M c Q σ:=h
theorem X5.slcRL {α:Type} {d e by_ n k:Nat} {zl:Int} {kl:IntKind} {f:α→List PV} {L:List α} {zr:List PV} {own:Option TypeId} {x lo:Operand} {t:TypeId} {ti:TyI} (hg:Xk ops σ o=some true) (hd:o.dst=some d) (hop:o.op = .slice t x (some lo) none none) (hx:pev σ x = .sl n k (L.flatMap f) own) (hlo:pev σ lo = .val (.int kl zl)) (ht:T.at t=some ti) (hk:ti.kind = .slice e k by_ zr) (hb:σ.freeB (base+i)=true)
  (hf:∀x,(f x).length=k) (h1:0≤zl∧zl≤n∧n=L.length) (kn:X5 P T ops base ok rest K (σ.put d (.sl (L.drop zl.toNat).length k ((L.drop zl.toNat).flatMap f) none))):X5 P T ops base ok ((i,o) :: rest) K σ:=by
 refine X5.slc zl.toNat n hg hd hop hx ht hk hb rfl ?_ ?_
 ·simp only [Option.map_some,hlo,Yf];rw [if_pos ⟨h1.1,O_⟩]
 ·have:PV.sl (n - zl.toNat) k (((L.flatMap f).drop (zl.toNat * k)).take ((n - zl.toNat) * k)) none = .sl (L.drop zl.toNat).length k ((L.drop zl.toNat).flatMap f) none:=by
   refine Xp1 (by rw [L_];omega) ?_
   rw [X58 hf,H_ (by rw [Kk hf,L_,h1.2.2];exact Nat.le_refl _)]
  rw [this];exact kn
theorem X5.slcRH {α:Type} {d e by_ n k:Nat} {zh:Int} {kh:IntKind} {f:α→List PV} {L:List α} {zr:List PV} {own:Option TypeId} {x hi:Operand} {t:TypeId} {ti:TyI} (hg:Xk ops σ o=some true) (hd:o.dst=some d) (hop:o.op = .slice t x none (some hi) none) (hx:pev σ x = .sl n k (L.flatMap f) own) (hhi:pev σ hi = .val (.int kh zh)) (ht:T.at t=some ti) (hk:ti.kind = .slice e k by_ zr) (hb:σ.freeB (base+i)=true)
  (hf:∀x,(f x).length=k) (h1:0≤zh∧zh≤n∧n=L.length) (kn:X5 P T ops base ok rest K (σ.put d (.sl (L.take zh.toNat).length k ((L.take zh.toNat).flatMap f) none))):X5 P T ops base ok ((i,o) :: rest) K σ:=by
 refine X5.slc 0 zh.toNat hg hd hop hx ht hk hb ?_ rfl ?_
 ·simp only [Option.map_some,hhi,Yf];rw [if_pos ⟨h1.1,h1.2.1⟩]
 ·have:PV.sl (zh.toNat - 0) k (((L.flatMap f).drop (0 * k)).take ((zh.toNat - 0) * k)) none = .sl (L.take zh.toNat).length k ((L.take zh.toNat).flatMap f) none:=by
   refine Xp1 (by rw [T_];omega) ?_
   rw [Nat.zero_mul,List.drop_zero,Nat.sub_zero,X5i hf]
  rw [this];exact kn
end
section
open Go.RowKit
theorem Weak.sl {n k:Nat} {own:Option TypeId} {ps qs:List PV} (h:X7 ps qs):Weak (.sl n k ps own) (.sl n k qs none):=by
 refine ⟨fun Φ μ v hr=>?_,fun e=>by simp [PV.ownB] at e⟩
 cases hr with
 |sl0 _ _ a cap hc=>
  cases h
  exact .sl0 _ _ _ _ hc
 |sl _ _ _ _ b off cap us h1 h2 h3 hp hr=>
  have hl:=h.len
  refine .sl n k qs none b off cap us (by rw [←hl];exact h1) h2 h3 (fun j hj=>hp j (by rw [hl];exact hj)) (fun j c hj=>?_)
  obtain ⟨p,hpj,hw⟩:=h.get j c hj
  exact hw.1 _ _ _ (hr j p hpj)
theorem X7.refl:∀(ps:List PV),X7 ps ps
 | []=>.nil
 |p :: ps=>.cons (.refl p) (X7.refl ps)
theorem Xs.args {P:Program} {f:FuncId} {ps qs:List PV} {post:PV→Prop} (h:Xs P f qs post) (hw:X7 ps qs):Xs P f ps post:=by
 refine ⟨h.1,fun Φ μ w vs himm hgl hr=>h.2 Φ μ w vs himm hgl ⟨by rw [hr.1,hw.len],fun j c u hc hu=>?_⟩⟩
 obtain ⟨p,hp,hw'⟩:=hw.get j c hc
 exact hw'.1 _ _ _ (hr.2 j p u hp hu)
def Y4f (a:Nat):List Oper→Nat→Option (Nat×Op)
 | [],_=>none
 |o :: r,k=>match o.dst with
  |some d=>if Nat.beq d a then some (k,o.op) else Y4f a r (k+1)
  |none=>Y4f a r (k+1)
def Xkz (env:Nat→Option Nat) (base:Nat) (ops:List Oper):Nat→Nat→Option Nat
 |0,_=>none
 |n+1,a=>match Y4f a ops 0 with
  |some (k, .alloc _)=>some (base+k)
  |some (k, .box _ _)=>some (base+k)
  |some (_, .fieldAddr _ (.tmp b) _)=>Xkz env base ops n b
  |some (_, .move (.tmp b))=>Xkz env base ops n b
  |some (_, .nilCheck (.tmp b))=>Xkz env base ops n b
  |some (_, .indexAddr _ (.tmp b) _)=>Xkz env base ops n b
  |some (_, .slice _ (.tmp b) _ _ _)=>Xkz env base ops n b
  |some _=>none
  |none=>env a
def Xa9 (env:Nat→Option Nat) (base:Nat) (ops:List Oper) (o:Oper):Option Nat:=match o.op with
 | .store _ (.tmp a) _=>Xkz env base ops 6 a
 | .load _ (.tmp a)=>Xkz env base ops 6 a
 |_=>none
def Xog (σ:PS) (a:Nat):Option Nat:=match σ.t a with
 | .ptr id _=>some id
 | .msl id _ _ _=>some id
 |_=>none
def okE (env:Nat→Option Nat) (ops:List Oper) (base i id:Nat):Bool:=okD (clos ops) base ops.length i id && (match (ops[i]?).bind (Xa9 env base ops) with|some k=>Nat.beq id k|none=>true)
def sepE (env:Nat→Option Nat) (base:Nat) (ops:List Oper) (iy ix:Nat) (y x:Oper):Bool:=
 (match Xa9 env base ops y with|some k => !okE env ops base ix k|none=>false) || (match Xa9 env base ops x with|some k => !okE env ops base iy k|none=>false)
theorem Y50 {env:Nat→Option Nat} {ops:List Oper} {base iy ix:Nat} {y x:Oper} (hy:ops[iy]? = some y) (hx:ops[ix]? = some x) (hs:sepE env base ops iy ix y x=true) (j:Nat) (h1:okE env ops base iy j=true) (h2:okE env ops base ix j=true):False:=by
 have res:∀(i:Nat) o k,ops[i]? = some o→okE env ops base i j=true→Xa9 env base ops o=some k→j=k:=by
  intro i o k ho h hr
  simp only [okE,ho,Option.bind_some,hr,Bool.and_eq_true] at h
  exact Nat.eq_of_beq_eq_true h.2
 simp only [sepE,Bool.or_eq_true] at hs
 rcases hs with hs|hs
 ·cases hr:Xa9 env base ops y with
  |none=>rw [hr] at hs;cases hs
  |some k=>
   rw [hr] at hs
   have e:=res iy y k hy h1 hr
   subst e
   simp [h2] at hs
 ·cases hr:Xa9 env base ops x with
  |none=>rw [hr] at hs;cases hs
  |some k=>
   rw [hr] at hs
   have e:=res ix x k hx h2 hr
   subst e
   simp [h1] at hs
def indE (env:Nat→Option Nat) (base:Nat) (ops:Array Oper) (iy ix:Nat) (y x:Oper):Bool:=
 (match y.dst,x.dst with|some a,some b=>a != b|_,_=>true) &&
 (match y.dst with|some a => !(X1j x.op.operands.toList).contains a && !(X6u ops x).contains a|none=>true) &&
 (match x.dst with|some b => !(X1j y.op.operands.toList).contains b && !(X6u ops y).contains b|none=>true) &&
 (Kr (Yr ops y.dst) y).all (fun s => !(Kr (Yr ops x.dst) x).contains s) &&
 (!(mapW (Yr ops y.dst) y && mapU x) && !(mapW (Yr ops x.dst) x && mapU y)) &&
 ((!(X0t y && X0i x) && !(X0t x && X0i y) && !(Kb (Yr ops y.dst) y && Kb (Yr ops x.dst) x)) || sepE env base ops.toList iy ix y x)
def drawE (env:Nat→Option Nat) (base:Nat) (ops:List Oper):Bool:=
 let cl:=clos ops
 (Xa 0 ops).all fun x=>x.2.after.toList.all (fun e => !Region.binds .any e || decide (e.on < x.1)) &&
  (Xa 0 ops).all fun y => !decide (y.1 < x.1) || (cl.getD x.1 []).contains y.1 || indE env base ops.toArray y.1 x.1 y.2 x.2
end
section
open Go.RowKit
variable {P:Program} {T:Tab} {σ:PS} {ops:Array Oper} {base:Nat} {ok:Nat→Nat→Bool}
theorem Xov {env:Nat→Option Nat} {eb:Nat} {iy ix:Nat} {y x:Oper} (h:indE env eb ops iy ix y x=true):Ind ops (sepE env eb ops.toList iy ix y x=true) y x:=by
 simp only [indE,Bool.and_eq_true,Bool.not_eq_true',Bool.or_eq_true (_ && _) (sepE _ _ _ _ _ _ _)] at h
 obtain ⟨⟨⟨⟨⟨h1,h2⟩,h3⟩,h4⟩,h6⟩,h5⟩:=h
 refine ⟨?_,?_,?_,?_,?_,?_,?_,?_,?_⟩
 ·intro a b ea eb
  rw [ea,eb] at h1
  simpa using h1
 ·intro a ea
  rw [ea] at h2
  simpa using h2
 ·intro a ea
  rw [ea] at h3
  simpa using h3
 ·intro s hs
  have:=List.all_eq_true.1 h4 s hs
  simpa using this
 ·intro e1 e2
  rcases h5 with h5|h5
  ·simp only [e1,e2,Bool.and_eq_true,Bool.not_eq_true',Bool.and_true,Bool.true_and] at h5
   simp at h5
  ·exact h5
 ·intro e1 e2
  rcases h5 with h5|h5
  ·simp only [e1,e2,Bool.and_eq_true,Bool.not_eq_true',Bool.and_true,Bool.true_and] at h5
   simp at h5
  ·exact h5
 ·intro e1 e2
  rcases h5 with h5|h5
  ·simp only [e1,e2,Bool.and_eq_true,Bool.not_eq_true',Bool.and_true,Bool.true_and] at h5
   simp at h5
  ·exact h5
 ·intro e1 e2
  have:=h6.1
  rw [e1,e2] at this;cases this
 ·intro e1 e2
  have:=h6.2
  rw [e1,e2] at this;cases this
end
section
open Go.RowKit
theorem X5.bubbleE {P:Program} {T:Tab} {ops:Array Oper} {base:Nat} {ok:Nat→Nat→Bool} {env:Nat→Option Nat} {eb:Nat} {ix:Nat} {x:Oper} {post:List (Nat×Oper)} {Q:PS→Prop} : ∀(pre:List (Nat×Oper)) (σ:PS),(∀y∈pre,(indE env eb ops y.1 ix y.2 x=true∧(sepE env eb ops.toList y.1 ix y.2 x=true→∀j,ok y.1 j=true→ok ix j=true→False))∧y.1≠ix∧ok ix (base+y.1)=false∧ok y.1 (base+ix)=false) →
  X5 P T ops base ok (pre ++ (ix,x) :: post) Q σ→X5 P T ops base ok ((ix,x) :: (pre ++ post)) Q σ
 | [],σ,_,h=>h
 |(iy,y) :: pre,σ,hall,h=>by
  obtain ⟨h1,h2,h3,h4⟩:=hall (iy,y) S_
  have ih:=X5.bubbleE (P:=P) (T:=T) (ops:=ops) (base:=base) (ok:=ok) (env:=env) (eb:=eb) (ix:=ix) (x:=x) (post:=post) (Q:=Q) pre
  have:PWop P T ops base ok iy y (PWop P T ops base ok ix x (X5 P T ops base ok (pre ++ post) Q)) σ:=
   PWop.mono (fun σ' h' => ih σ' (fun z hz=>hall z (by simp [hz])) h') h
  exact PWop.swap (Xov h1.1) h1.2 h2 h3 h4 this
theorem Xlw {env:Nat→Option Nat} {eb:Nat} {ops:List Oper} (h:drawE env eb ops=true):(∀(i:Nat) o,ops[i]? = some o→∀e∈o.after.toList,Region.binds .any e=true→e.on < i) ∧
  (∀(i j:Nat) x y,ops[i]? = some x→ops[j]? = some y→j < i→j∈(clos ops).getD i []∨indE env eb ops.toArray j i y x=true):=by
 have hm:∀(i:Nat) o,ops[i]? = some o→(i,o)∈Xa 0 ops:=by
  have:∀(l:List Oper) (k i:Nat) o,l[i]? = some o→(k+i,o)∈Xa k l:=by
   intro l
   induction l with
   |nil=>intro k i o h;simp at h
   |cons p l ih=>
    intro k i o h
    cases i with
    |zero=>simp at h;subst h;simp [Xa]
    |succ i=>
     simp at h
     have:=ih (k+1) i o h
     simp only [Xa,List.mem_cons]
     right
     rw [show k+(i+1)=k+1+i by omega];exact this
  intro i o h
  have:=this ops 0 i o h
  rwa [Nat.zero_add] at this
 simp only [drawE] at h
 have h':=List.all_eq_true.1 h
 refine ⟨fun i o ho e he hb=>?_,fun i j x y hx hy hji=>?_⟩
 ·have:=h' _ (hm i o ho)
  simp only [Bool.and_eq_true] at this
  have:=List.all_eq_true.1 this.1 e he
  simpa [hb] using this
 ·have:=h' _ (hm i x hx)
  simp only [Bool.and_eq_true] at this
  have:=List.all_eq_true.1 this.2 _ (hm j y hy)
  simp only [hji,decide_true,Bool.not_true,Bool.false_or,Bool.or_eq_true,List.contains_iff_mem] at this
  exact this
end
section
open Go.RowKit
variable {Φ0:Ent} {W:World} {M:Nat} {P:Program} {T:Tab} {ops:List Oper} {base:Nat} {env:Nat→Option Nat}
theorem Xoa (hT:T=Kf P) (hbase:base+ops.toArray.size≤1000000) (hall:∀(j:Nat) o,ops.toArray[j]? = some o→dstB M o=true) (hdraw:drawE env base ops=true) {Q:PS→Prop} {Q' : Exit→Act→World→Prop} (hQ:∀σ a w,Q σ→Rel Φ0 W M σ a w→Q' .normal a w) {r:Option Nat} :
  ∀(fuel:Nat) (listed:Array Bool) (σ:PS) (a:Act) (w:World),Ke listed≤fuel→listed.size=ops.length→(∀(i:Nat) o,ops[i]? = some o→listed.getD i false=true→∀j,depO o j=true→listed.getD j false=true) →
   X5 P T ops.toArray base (okE env ops base) ((Xa 0 ops).filter fun x => !listed.getD x.1 false) Q σ→Rel Φ0 W M σ a w→wpAnyIn (FW r) 0 P .any ops.toArray Q' fuel listed a w:=by
 obtain ⟨hE,hI⟩:=Xlw hdraw
 have hsz:∀listed:Array Bool,listed.size=ops.length→listed.size=ops.toArray.size:=fun l h=>by simpa using h
 have fin:∀(listed:Array Bool) (σ:PS) (a:Act) (w:World),listed.size=ops.length→(∀i,i < ops.length→listed.getD i false=true) →
   X5 P T ops.toArray base (okE env ops base) ((Xa 0 ops).filter fun x => !listed.getD x.1 false) Q σ→Rel Φ0 W M σ a w→Q' .normal a w:=by
  intro listed σ a w hs hl h hr
  have:((Xa 0 ops).filter fun x => !listed.getD x.1 false) = []:=by
   rw [List.filter_eq_nil_iff]
   intro x hx
   obtain ⟨-,h2⟩:=Yb 0 ops x hx
   have:x.1 < ops.length:=by have:=(List.getElem?_eq_some_iff.1 h2).1;omega
   simp [hl x.1 this]
  rw [this] at h
  exact hQ σ a w h hr
 have alls:∀listed:Array Bool,listed.size=ops.length→Region.ready .any ops.toArray listed = []→∀i,i < ops.length→listed.getD i false=true:=by
  intro listed hs hr i
  induction i using Nat.strongRecOn with
  |_ i ih=>
   intro hi
   have ho:ops.toArray[i]? = some ops[i]:=by simp [hi]
   cases hl:listed.getD i false with
   |true=>rfl
   |false=>
    have:i∈Region.ready .any ops.toArray listed:=(Ym (hsz listed hs)).2 ⟨ops[i],ho,hl,fun j hj=>by
     obtain ⟨e,he,hb,rfl⟩:=X2t.1 hj
     have:=hE i ops[i] (by simp [hi]) e he hb
     exact ih e.on this O_⟩
    rw [hr] at this;cases this
 intro fuel
 induction fuel with
 |zero=>
  intro listed σ a w hu hs hcl h hr
  have hl:=Ky (Nat.le_zero.1 hu)
  rw [hs] at hl
  refine ⟨?_,fin listed σ a w hs hl h hr⟩
  apply List.eq_nil_iff_forall_not_mem.2
  intro i hi
  obtain ⟨o,ho,h1,_⟩:=(Ym (hsz listed hs)).1 hi
  rw [hl i (by have:=(Array.getElem?_eq_some_iff.1 ho).1;simpa using this)] at h1
  cases h1
 |succ fuel ih=>
  intro listed σ a w hu hs hcl h hr
  refine ⟨fun hrd=>fin listed σ a w hs (alls listed hs hrd) h hr,fun i hi=>?_⟩
  obtain ⟨o,ho,h1,h2⟩:=(Ym (hsz listed hs)).1 hi
  have ho' : ops[i]? = some o:=by simpa using ho
  have hil:i < ops.length:=(List.getElem?_eq_some_iff.1 ho').1
  have hmem:(i,o)∈(Xa 0 ops).filter fun x => !listed.getD x.1 false:=by
   rw [List.mem_filter]
   refine ⟨?_,by simp [h1]⟩
   have:∀(l:List Oper) (k i:Nat) o,l[i]? = some o→(k+i,o)∈Xa k l:=by
    intro l
    induction l with
    |nil=>intro k i o h;simp at h
    |cons p l ih=>
     intro k i o h
     cases i with
     |zero=>simp at h;subst h;simp [Xa]
     |succ i=>
      simp at h
      have:=ih (k+1) i o h
      simp only [Xa,List.mem_cons]
      right
      rw [show k+(i+1)=k+1+i by omega];exact this
   have:=this ops 0 i o ho'
   rwa [Nat.zero_add] at this
  obtain ⟨pre,post,hL⟩:=List.append_of_mem hmem
  have hsort:((Xa 0 ops).filter fun x => !listed.getD x.1 false).Pairwise (fun a b=>a.1 < b.1):=(Kz 0 ops).filter _
  rw [hL] at h hsort
  rw [List.pairwise_append] at hsort
  obtain ⟨-,hs2,hs3⟩:=hsort
  rw [List.pairwise_cons] at hs2
  have hpre:∀y∈pre,y.1 < i:=fun y hy=>hs3 y hy (i,o) S_
  have hpost:∀y∈post,i < y.1:=fun y hy=>hs2.1 y hy
  have hprem:∀y∈pre,ops[y.1]? = some y.2∧listed.getD y.1 false=false:=by
   intro y hy
   have:y∈(Xa 0 ops).filter fun x => !listed.getD x.1 false:=by rw [hL];simp [hy]
   rw [List.mem_filter] at this
   obtain ⟨-,q⟩:=Yb 0 ops y this.1
   exact ⟨by simpa using q,by simpa using this.2⟩
  have hb:=X5.bubbleE (P:=P) (T:=T) (base:=base) (ok:=okE env ops base) (env:=env) (eb:=base) (ix:=i) (x:=o) (post:=post) (Q:=Q) pre σ (by
   intro y hy
   obtain ⟨q1,q2⟩:=hprem y hy
   have hlt:=hpre y hy
   have hnc:y.1∉(clos ops).getD i []:=fun hc=>by
    rw [V1 hE hcl i o ho' h2 y.1 hc] at q2;cases q2
   have hyl:y.1 < ops.length:=(List.getElem?_eq_some_iff.1 q1).1
   refine ⟨⟨by simpa using (hI i y.1 o y.2 ho' q1 hlt).resolve_left hnc,fun hs j hj1 hj2=>Y50 (ops:=ops) q1 ho' (by simpa using hs) j hj1 hj2⟩,O_,?_,?_⟩
   ·rw [okE,Bool.and_eq_false_iff];left
    simp only [okD,Bool.or_eq_false_iff,decide_eq_false_iff_not]
    refine ⟨⟨O_,O_⟩,?_⟩
    rw [Nat.add_sub_cancel_left]
    simpa using hnc
   ·rw [okE,Bool.and_eq_false_iff];left
    simp only [okD,Bool.or_eq_false_iff,decide_eq_false_iff_not]
    refine ⟨⟨O_,O_⟩,?_⟩
    rw [Nat.add_sub_cancel_left]
    have:i∉(clos ops).getD y.1 []:=fun hc=>by have:=X8w hE y.1 y.2 q1 i hc;omega
    simpa using this) h
  have hset:listed.getD i false=false:=h1
  have hlt:i < listed.size:=by rw [hs];exact hil
  have hrem:pre ++ post=(Xa 0 ops).filter fun x => !(listed.setIfInBounds i true).getD x.1 false:=by
   have e1:((Xa 0 ops).filter fun x => !(listed.setIfInBounds i true).getD x.1 false)=((Xa 0 ops).filter fun x => !listed.getD x.1 false).filter (fun x => !decide (x.1=i)):=by
    rw [List.filter_filter]
    congr 1
    funext x
    rw [Yk _ _ _ hlt]
    cases listed.getD x.1 false<;>simp
   rw [e1,hL,List.filter_append,List.filter_cons]
   have e2:pre.filter (fun x => !decide (x.1=i))=pre:=List.filter_eq_self.2 (fun y hy=>by have:=hpre y hy;simp;omega)
   have e3:post.filter (fun x => !decide (x.1=i))=post:=List.filter_eq_self.2 (fun y hy=>by have:=hpost y hy;simp;omega)
   rw [e2,e3]
   simp
  have hcl' : ∀(k:Nat) p,ops[k]? = some p→(listed.setIfInBounds i true).getD k false=true→∀j,depO p j=true→(listed.setIfInBounds i true).getD j false=true:=by
   intro k p hp hk j hj
   rw [Yk _ _ _ hlt] at hk ⊢
   simp only [Bool.or_eq_true,decide_eq_true_eq] at hk ⊢
   rcases hk with rfl|hk
   ·rw [ho'] at hp;cases hp;exact .inr (h2 j hj)
   ·exact .inr (hcl k p hp hk j hj)
  have hstep:=X1w (Φ0:=Φ0) (W:=W) (M:=M) hT hall (base:=base) hbase ho (K':=wpAnyIn (FW r) 0 P .any ops.toArray Q' fuel (listed.setIfInBounds i true)) (Q':=Q') (fun σ' a' w' hk hr' => ih (listed.setIfInBounds i true) σ' a' w' (by have:=V0 listed i hlt hset;omega) (by simpa using hs) hcl' (by rw [←hrem];exact hk) hr') hb hr
  unfold wpOpIn
  rw [ho]
  simp only
  split
  ·rename_i hw;rw [if_pos hw] at hstep;exact Vl (Vz (hall i o ho)) hstep
  ·rename_i hw;rw [if_neg hw] at hstep;exact ⟨fun _ _=>trivial,hstep⟩
theorem PW.drawE {Q:Exit→PS→Prop} {σ:PS} (hT:T=Kf P) (hm:P.follows .mixedOrders=true) {id:Nat} (hall2:(ops.all (dstB M) && Nat.ble (1000 * id+ops.length) 1000000)=true) (hd:drawE (Xog σ) (1000 * id) ops=true)
  (h:X5 P T ops.toArray (1000 * id) (okE (Xog σ) ops (1000 * id)) (Xa 0 ops) (Q .normal) σ):PW P M (.region id ops.toArray true) Q σ:=by
 intro Φ0 W a w hr
 have hall2':=hall2
 simp only [Bool.and_eq_true] at hall2'
 obtain ⟨hall,hb0⟩:=hall2'
 have hbase:=Nat.le_of_ble_eq_true hb0
 refine wpIn_region_any hm ?_
 obtain ⟨Φ,μ,ω,hg⟩:=hr
 refine Xoa (Φ0:=Φ0) (W:=W) (M:=M) (base:=1000 * id) (env:=Xog σ) (Q:=Q .normal) hT (by simpa using hbase) (by
  intro j o hj
  exact List.all_eq_true.1 hall o (Xc (by simpa using hj))) hd (fun σ a w hq hrel=>⟨_,Φ0,W,hq,Z4.refl _ _,hrel⟩) _ _ σ a _ ?_ S_ ?_ ?_ ⟨Φ,μ,ω,hg.drew⟩
 ·unfold Ke
  exact Nat.le_trans List.countP_le_length S_
 ·intro i o ho hl
  simp [Array.getD_eq_getD_getElem?,Array.getElem?_replicate] at hl
  split at hl<;>simp_all
 ·have:((Xa 0 ops).filter fun x => !(Array.replicate ops.toArray.size false).getD x.1 false)=Xa 0 ops:=by
   rw [List.filter_eq_self]
   intro x _
   simp [Array.getD_eq_getD_getElem?,Array.getElem?_replicate]
   split<;>rfl
  rw [this]
  exact h
end
section
open Go.RowKit
open Classical in
noncomputable def freshI (I0 Φ:Imm) (ω:Nat→Option Who):Imm:=fun b o=>if ∃p,ω b=some p then I0 b o else Φ b o
theorem Zq {I0 Φ:Imm} {ω:Nat→Option Who} {b o:Nat} (h:∀p,ω b≠some p):freshI I0 Φ ω b o=Φ b o:=by
 unfold freshI
 rw [if_neg]
 rintro ⟨p,e⟩
 exact h p e
theorem Zb {I0 Φ:Imm} {ω:Nat→Option Who} {b o:Nat} (h:∃p,ω b=some p):freshI I0 Φ ω b o=I0 b o:=by
 unfold freshI
 rw [if_pos h]
end
section
open Go.RowKit
variable {Φ0:Ent} {W:World} {M:Nat} {Φ:Imm} {μ:Nat→Option Nat} {ω:Nat→Option Who} {σ:PS} {a:Act} {w:World} {P:Program}
theorem RelG.freshSub (h:RelG Φ0 W M Φ μ ω σ a w) {b o:Nat} {u:Value} (e:freshI Φ0.imm Φ ω b o=some u):Φ b o=some u:=by
 unfold freshI at e
 split at e
 ·exact (h.ext b o u e).1
 ·exact e
theorem RelG.freshGlob (h:RelG Φ0 W M Φ μ ω σ a w):X4z (freshI Φ0.imm Φ ω):=by
 intro x hx j z e
 unfold freshI
 split
 ·exact Φ0.glob x hx j z e
 ·exact h.glob x hx j z e
theorem RelG.freshMix (h:RelG Φ0 W M Φ μ ω σ a w) {g:Nat} (hg:∃p,ω g=some p):Mix (freshI Φ0.imm Φ ω) g:=by
 have hm:Mix Φ0.imm g:=by
  obtain ⟨p,e⟩:=hg
  rcases h.mine g p e with h' | h'
  ·intro o u e'; have:=(h.ext g o u e').2;omega
  ·exact Φ0.fl g h'
 intro o u e
 rw [Zb hg] at e
 obtain ⟨o',u',e1,e2⟩:=hm o u e
 exact ⟨o',u',by rw [Zb hg];exact e1,e2⟩
noncomputable def RelG.freshE (h:RelG Φ0 W M Φ μ ω σ a w) (mu:Nat→Option Nat):Ent:=
 ⟨freshI Φ0.imm Φ ω,fun g=>∃p,ω g=some p,mu,h.freshGlob,fun _ hg=>h.freshMix hg,Φ0.marks,Φ0.round⟩
theorem RelG.rebase (h:RelG Φ0 W M Φ μ ω σ a w) {Φ1:Ent} {W1:World} (hb:Kept (Old Φ1 W1) W1 w) (hd:a.defers=Φ1.marks.map X7u∧Xxe Φ1 W1) (ho:∀b o,Old Φ1 W1 b→Φ b o=Φ1.imm b o)
  (hg:∀id g,Φ1.mu id=some g→1000000≤id) (hk:∀id g,Φ1.mu id=some g→(σ.b id≠none∨σ.m id≠none)→μ id=some g) (he:∀b o u,Φ1.imm b o=some u→Φ b o=some u∧b < W1.heap.size) (hm:∀g p,ω g=some p→Mine Φ1 W1 g):RelG Φ1 W1 M Φ μ ω σ a w:=
 ⟨hb,hd,h.size,h.imm,ho,h.tmps,fun t n k cs E e=>(h.own t n k cs E e).inB (fun g e=>hm g _ e),fun id bs e=>(h.box id bs e).inB (fun g q _ e=>hm g q e),h.gone,h.lt,hg,hk,he,fun id X e=>(h.map id X e).inB (fun g q _ e=>hm g q e),hm⟩
theorem RelG.noOld (h:RelG Φ0 W M Φ μ ω σ a w) {b:Nat} (hb:Old Φ0 W b):∀p,ω b≠some p:=fun p e=>(h.mine b p e).ne hb rfl
theorem RelG.rnd (h:RelG Φ0 W M Φ μ ω σ a w) {l:Nat} (e:Φ0.round=some l):l < w.heap.size∧(∀p,ω l≠some p)∧∃r,w.heap[l]? = some (.loop r):=by
 obtain ⟨h1,r,h2⟩:=h.defers.2 l e
 exact ⟨Nat.lt_of_lt_of_le h1.1 h.below.size,h.noOld h1,r,(h.below.block l h1).trans h2⟩
theorem RelG.fresh0 (h:RelG Φ0 W M Φ μ ω σ a w) {mu:Nat→Option Nat} (hg:∀id g,mu id=some g→1000000≤id) (hk:∀id g,mu id=some g→(σ.b id≠none∨σ.m id≠none)→μ id=some g):RelG (h.freshE mu) w M Φ μ ω σ a w:=by
 refine h.rebase (Kept.refl _ _) ⟨h.defers.1,fun l e=>?_⟩ (fun b o hb=>(Zq fun p e=>hb.2 ⟨p,e⟩).symm) hg hk (fun b o u e=>⟨h.freshSub e,RelG.fresh h (h.freshSub e)⟩) (fun g p e=>.inr ⟨p,e⟩)
 obtain ⟨h1,h2,h3⟩:=h.rnd e
 exact ⟨⟨h1,fun ⟨p,hp⟩=>h2 p hp⟩,h3⟩
structure Xwy (Φ:Imm) (ω:Nat→Option Who) (w:World) (Φ' : Imm) (ω' : Nat→Option Who) (w' : World):Prop where
 kept:Kept (fun b=>b < w.heap.size∧∀p,ω b≠some p) w w'
 own:∀g p,ω' g=some p→(∃q,ω g=some q)∨w.heap.size≤g
 imm:∀b o,b < w.heap.size→(∀p,ω b≠some p)→Φ' b o=Φ b o
theorem RelG.since (h:RelG Φ0 W M Φ μ ω σ a w) {mu:Nat→Option Nat} {Φ2:Ent} {W2:World} (hl:Z4 (h.freshE mu) w Φ2 W2) {M' : Nat} {Φ' : Imm} {μ' : Nat→Option Nat} {ω' : Nat→Option Who} {σ' : PS} {a' : Act} {w' : World} (k:RelG Φ2 W2 M' Φ' μ' ω' σ' a' w'):Xwy Φ ω w Φ' ω' w':=by
 have hold:∀b,b < w.heap.size→(∀p,ω b≠some p)→Old (h.freshE mu) w b:=fun b h1 h2=>⟨h1,fun ⟨p,e⟩=>h2 p e⟩
 refine ⟨(hl.kept.trans (k.below.mono hl.old)).mono fun b hb=>hold b hb.1 hb.2,fun g p e=>?_,fun b o h1 h2=>?_⟩
 ·rcases hl.mine g (k.mine g p e) with h|h
  ·exact .inr h
  ·exact .inl h
 ·rw [k.old b o (hl.old b (hold b h1 h2)),hl.imm]
  exact Zq h2
theorem RelG.unfresh (h:RelG Φ0 W M Φ μ ω σ a w) {Φ2:Ent} {W2:World} (hl:Z4 (h.freshE Φ0.mu) w Φ2 W2) {Φ' : Imm} {μ' : Nat→Option Nat} {ω' : Nat→Option Who} {σ' : PS} {a' : Act} {w' : World} (k:RelG Φ2 W2 M Φ' μ' ω' σ' a' w') :
  ∃Φ3 W3,Z4 Φ0 W Φ3 W3∧Φ3.marks=Φ2.marks∧RelG Φ3 W3 M Φ' μ' ω' σ' a' w':=by
 have hs:=h.since hl k
 obtain ⟨ms,e1,n1,h1⟩:=hl.marks
 have hsz:w.heap.size≤W2.heap.size:=hl.kept.size
 have hWw:=h.below.size
 have hext:∀b o u,Φ0.imm b o=some u→b < W.heap.size:=fun b o u e=>(h.ext b o u e).2
 have hmine2:∀g,Mine Φ2 W2 g→Mine Φ0 W g:=fun g hg=>by
  rcases hl.mine g hg with h' | ⟨p,h'⟩
  ·exact .inl (Nat.le_trans hWw h')
  ·exact h.mine g p h'
 let Φ3:Ent:=⟨Φ0.imm,fun g=>Mine Φ0 W g∧g < W2.heap.size∧g∉ms,Φ0.mu,Φ0.glob,fun g hg=>by
  rcases hg.1 with h' | h'
  ·intro o u e;have:=hext g o u e;omega
  ·exact Φ0.fl g h',Φ2.marks,Φ0.round⟩
 have holdc:∀b,Old Φ3 W2 b→Old Φ0 W b∨b∈ms:=by
  rintro b ⟨hb1,hb2⟩
  by_cases hm:b∈ms
  ·exact .inr hm
  ·left
   by_cases hmi:Mine Φ0 W b
   ·exact absurd ⟨hmi,hb1,hm⟩ hb2
   ·exact ⟨Nat.lt_of_not_le fun hh=>hmi (.inl hh),fun hh=>hmi (.inr hh)⟩
 have hold0:∀b,Old Φ0 W b→b < w.heap.size∧∀p,ω b≠some p:=fun b hb=>⟨Nat.lt_of_lt_of_le hb.1 hWw,h.noOld hb⟩
 have hold3:∀b,Old Φ0 W b→Old Φ3 W2 b:=fun b hb=>⟨Nat.lt_of_lt_of_le (hold0 b hb).1 hsz,fun hh=>hh.1.ne hb rfl⟩
 have holdf:∀b,Old Φ0 W b→Old Φ2 W2 b:=fun b hb=>hl.old b ⟨(hold0 b hb).1,fun ⟨p,e⟩=>(hold0 b hb).2 p e⟩
 have hkW2:Kept (Old Φ0 W) W W2:=h.below.trans (hl.kept.mono fun b hb=>⟨(hold0 b hb).1,fun ⟨p,e⟩=>(hold0 b hb).2 p e⟩)
 have hms:∀m∈ms,Old Φ3 W2 m:=fun m hm=>⟨(h1 m hm).2.1.1,fun hh=>hh.2.2 hm⟩
 have hlat:Z4 Φ0 W Φ3 W2:=by
  refine ⟨rfl,rfl,rfl,hkW2,hold3,fun g hg=>?_,fun b hb=>(holdc b hb).imp id (fun h=>by show b∈Φ2.marks;rw [e1];exact List.mem_append.2 (.inl h)),fun _=>hext,ms,e1,n1,fun m hm=>⟨Nat.le_trans hWw (h1 m hm).1,hms m hm,(h1 m hm).2.2⟩⟩
  rcases hg with h' | h'
  ·exact .inl (Nat.le_trans hkW2.size h')
  ·exact h'.1
 refine ⟨Φ3,W2,hlat,rfl,k.rebase (k.below.mono fun b hb=>?_) ⟨k.defers.1,fun l e=>?_⟩ (fun b o hb=>?_) h.gmu (fun i g e hi=>?_) (fun b o u e=>?_) (fun g p e=>?_)⟩
 ·rcases holdc b hb with h' | h'
  ·exact holdf b h'
  ·exact (h1 b h').2.1
 ·obtain ⟨q1,r,q2⟩:=h.defers.2 l e
  exact ⟨hold3 l q1,r,(hkW2.block l q1).trans q2⟩
 ·rcases holdc b hb with h' | h'
  ·rw [hs.imm b o (hold0 b h').1 (hold0 b h').2]
   exact h.old b o h'
  ·have e1:Φ' b o=none:=by
    cases hh:Φ' b o with
    |none=>rfl
    |some u=>
     have:=k.imm b o u hh
     have hd:=(k.below.block b (h1 b h').2.1).trans (h1 b h').2.2
     simp only [World.cell?,hd] at this
     cases this
   have e2:Φ0.imm b o=none:=by
    cases hh:Φ0.imm b o with
    |none=>rfl
    |some u=>have:=hext b o u hh;have:=(h1 b h').1;omega
   show _=Φ0.imm b o
   rw [e1,e2]
 ·exact k.kmu i g (by rw [hl.mu];exact e) hi
 ·have h3:=h.ext b o u e
  refine ⟨?_,Nat.lt_of_lt_of_le h3.2 hkW2.size⟩
  by_cases hω:∃p,ω b=some p
  ·refine (k.ext b o u ?_).1
   rw [hl.imm]
   exact (Zb hω).trans e
  ·rw [hs.imm b o (Nat.lt_of_lt_of_le h3.2 hWw) (fun p e=>hω ⟨p,e⟩)]
   exact h3.1
 ·have hm:=k.mine g p e
  by_cases hlt:g < W2.heap.size
  ·refine .inr ⟨hmine2 g hm,hlt,fun hh=>?_⟩
   exact hm.ne (h1 g hh).2.1 rfl
  ·exact .inl (Nat.le_of_not_lt hlt)
end
section
open Go.RowKit
variable {M:Nat} {P:Program} {T:Tab} {ops:List Oper}
def Ybf (P:Program) (T:Tab) (C:Ent→World→Prop) (M:Nat) (ops:Array Oper) (base i:Nat) (o:Oper) (K:PS→Prop) (σ:PS):Prop:=
 PWop P T ops base (fun _ _=>true) i o K σ ∨
 (Xk ops σ o=some true∧∀Φ0 W a w,C Φ0 W→(∀d,o.dst=some d→d < M)→Rel Φ0 W M σ a w→∀(next:Act→World→Prop) (Q:Exit→Act→World→Prop),(∀σ' a' w',K σ'→Rel Φ0 W M σ' a' w'→next a' w')→o.wp P a w next Q)
def SeqX (P:Program) (T:Tab) (C:Ent→World→Prop) (M:Nat) (ops:Array Oper) (base:Nat):List (Nat×Oper)→(PS→Prop)→PS→Prop
 | [],Q,σ=>Q σ
 |(i,o) :: r,Q,σ=>Ybf P T C M ops base i o (SeqX P T C M ops base r Q) σ
theorem SeqX.of {C:Ent→World→Prop} {ops:Array Oper} {base:Nat} {Q:PS→Prop} : ∀{l:List (Nat×Oper)} {σ:PS},X5 P T ops base (fun _ _=>true) l Q σ→SeqX P T C M ops base l Q σ
 | [],_,h=>h
 |(_,_) :: _,_,h=>.inl (PWop.mono (fun _ k=>SeqX.of k) h)
theorem SeqX.raw {C:Ent→World→Prop} {ops:Array Oper} {base i:Nat} {o:Oper} {l:List (Nat×Oper)} {Q:PS→Prop} {σ:PS} (σ' : PS) (hg:Xk ops σ o=some true)
  (h:∀Φ0 W a w,C Φ0 W→(∀d,o.dst=some d→d < M)→Rel Φ0 W M σ a w→∀(next:Act→World→Prop) (Q:Exit→Act→World→Prop),(∀a' w',Rel Φ0 W M σ' a' w'→next a' w')→o.wp P a w next Q) (k:SeqX P T C M ops base l Q σ'):SeqX P T C M ops base ((i,o) :: l) Q σ:=
 .inr ⟨hg,fun Φ0 W a w hC hM hr next Q hn=>h Φ0 W a w hC hM hr next Q fun a' w' hr' => hn σ' a' w' k hr'⟩
theorem X42:∀(l:List Oper) (k i:Nat) (o:Oper),l[i]? = some o→(k+i,o)∈Xa k l:=by
 intro l
 induction l with
 |nil=>intro k i o h;simp at h
 |cons p l ih=>
  intro k i o h
  cases i with
  |zero=>simp at h;subst h;simp [Xa]
  |succ i=>
   simp at h
   have:=ih (k+1) i o h
   simp only [Xa,List.mem_cons]
   right
   rw [show k+(i+1)=k+1+i by omega];exact this
def barB (k:Nat) (ops:List Oper):Bool:=(Xa 0 ops).all fun x=>decide (x.1 < k) || (Xa 0 ops).all fun y => !decide (y.1 < x.1) || ((clos ops).getD x.1 []).contains y.1
theorem Xk5 {k:Nat} (h:barB k ops=true) {i:Nat} {o:Oper} (ho:ops[i]? = some o) (hk:k≤i) {j:Nat} (hj:j < i):j∈(clos ops).getD i []:=by
 have h1:=X42 ops 0 i o ho
 rw [Nat.zero_add] at h1
 have hjl:j < ops.length:=by have:=(List.getElem?_eq_some_iff.1 ho).1;omega
 have h3:=X42 ops 0 j ops[j] (by simp [hjl])
 rw [Nat.zero_add] at h3
 have h2:=List.all_eq_true.1 h _ h1
 simp only [Bool.or_eq_true,decide_eq_true_eq] at h2
 rcases h2 with h2|h2
 ·omega
 ·have h4:=List.all_eq_true.1 h2 _ h3
  simp only [Bool.or_eq_true,Bool.not_eq_true',decide_eq_false_iff_not] at h4
  rcases h4 with h4|h4
  ·exact absurd hj h4
  ·exact List.contains_iff_mem.1 h4
theorem Xqk {C:Ent→World→Prop} {Φ0:Ent} {W:World} (hC:C Φ0 W) {base:Nat} (hT:T=Kf P) (hbase:base+ops.toArray.size≤1000000) (hall:∀(j:Nat) o,ops.toArray[j]? = some o→dstB M o=true) {k:Nat} (hbar:barB k ops=true) (hE:∀(i:Nat) o,ops[i]? = some o→∀e∈o.after.toList,Region.binds .any e=true→e.on < i)
  {Q:PS→Prop} {Q' : Exit→Act→World→Prop} (hQ:∀σ a w,Q σ→Rel Φ0 W M σ a w→Q' .normal a w) {r:Option Nat} :
  ∀(fuel:Nat) (listed:Array Bool) (σ:PS) (a:Act) (w:World),Ke listed≤fuel→listed.size=ops.length→(∀(i:Nat) o,ops[i]? = some o→listed.getD i false=true→∀j,depO o j=true→listed.getD j false=true)→(∀j,j < k→j < ops.length→listed.getD j false=true) →
   SeqX P T C M ops.toArray base ((Xa 0 ops).filter fun x => !listed.getD x.1 false) Q σ→Rel Φ0 W M σ a w→wpAnyIn (FW r) 0 P .any ops.toArray Q' fuel listed a w:=by
 have hsz:∀listed:Array Bool,listed.size=ops.length→listed.size=ops.toArray.size:=fun l h=>by simpa using h
 have fin:∀(listed:Array Bool) (σ:PS) (a:Act) (w:World),listed.size=ops.length→(∀i,i < ops.length→listed.getD i false=true) →
   SeqX P T C M ops.toArray base ((Xa 0 ops).filter fun x => !listed.getD x.1 false) Q σ→Rel Φ0 W M σ a w→Q' .normal a w:=by
  intro listed σ a w hs hl h hr
  have:((Xa 0 ops).filter fun x => !listed.getD x.1 false) = []:=by
   rw [List.filter_eq_nil_iff]
   intro x hx
   obtain ⟨-,h2⟩:=Yb 0 ops x hx
   have:x.1 < ops.length:=by have:=(List.getElem?_eq_some_iff.1 h2).1;omega
   simp [hl x.1 this]
  rw [this] at h
  exact hQ σ a w h hr
 have alls:∀listed:Array Bool,listed.size=ops.length→Region.ready .any ops.toArray listed = []→∀i,i < ops.length→listed.getD i false=true:=by
  intro listed hs hr i
  induction i using Nat.strongRecOn with
  |_ i ih=>
   intro hi
   have ho:ops.toArray[i]? = some ops[i]:=by simp [hi]
   cases hl:listed.getD i false with
   |true=>rfl
   |false=>
    have:i∈Region.ready .any ops.toArray listed:=(Ym (hsz listed hs)).2 ⟨ops[i],ho,hl,fun j hj=>by
     obtain ⟨e,he,hb,rfl⟩:=X2t.1 hj
     have:=hE i ops[i] (by simp [hi]) e he hb
     exact ih e.on this O_⟩
    rw [hr] at this;cases this
 intro fuel
 induction fuel with
 |zero=>
  intro listed σ a w hu hs hcl hd h hr
  have hl:=Ky (Nat.le_zero.1 hu)
  rw [hs] at hl
  refine ⟨?_,fin listed σ a w hs hl h hr⟩
  apply List.eq_nil_iff_forall_not_mem.2
  intro i hi
  obtain ⟨o,ho,h1,_⟩:=(Ym (hsz listed hs)).1 hi
  rw [hl i (by have:=(Array.getElem?_eq_some_iff.1 ho).1;simpa using this)] at h1
  cases h1
 |succ fuel ih=>
  intro listed σ a w hu hs hcl hd h hr
  refine ⟨fun hrd=>fin listed σ a w hs (alls listed hs hrd) h hr,fun i hi=>?_⟩
  obtain ⟨o,ho,h1,h2⟩:=(Ym (hsz listed hs)).1 hi
  have ho' : ops[i]? = some o:=by simpa using ho
  have hil:i < ops.length:=(List.getElem?_eq_some_iff.1 ho').1
  have hki:k≤i:=by
   rcases Nat.lt_or_ge i k with hh|hh
   ·rw [hd i hh hil] at h1;cases h1
   ·exact hh
  have hmem:(i,o)∈(Xa 0 ops).filter fun x => !listed.getD x.1 false:=by
   rw [List.mem_filter]
   refine ⟨?_,by simp [h1]⟩
   have:=X42 ops 0 i o ho'
   rwa [Nat.zero_add] at this
  obtain ⟨pre,post,hL⟩:=List.append_of_mem hmem
  have hsort:((Xa 0 ops).filter fun x => !listed.getD x.1 false).Pairwise (fun a b=>a.1 < b.1):=(Kz 0 ops).filter _
  rw [hL] at h hsort
  rw [List.pairwise_append] at hsort
  obtain ⟨-,hs2,hs3⟩:=hsort
  rw [List.pairwise_cons] at hs2
  have hpost:∀y∈post,i < y.1:=fun y hy=>hs2.1 y hy
  have hpre:pre = []:=by
   apply List.eq_nil_iff_forall_not_mem.2
   intro y hy
   have hlt:y.1 < i:=hs3 y hy (i,o) S_
   have:y∈(Xa 0 ops).filter fun x => !listed.getD x.1 false:=by rw [hL];simp [hy]
   rw [List.mem_filter] at this
   have h3:=V1 hE hcl i o ho' h2 y.1 (Xk5 hbar ho' hki hlt)
   rw [h3] at this
   exact absurd this.2 S_
  subst hpre
  have hlt:i < listed.size:=by rw [hs];exact hil
  have hrem:post=(Xa 0 ops).filter fun x => !(listed.setIfInBounds i true).getD x.1 false:=by
   have e1:((Xa 0 ops).filter fun x => !(listed.setIfInBounds i true).getD x.1 false)=((Xa 0 ops).filter fun x => !listed.getD x.1 false).filter (fun x => !decide (x.1=i)):=by
    rw [List.filter_filter]
    congr 1
    funext x
    rw [Yk _ _ _ hlt]
    cases listed.getD x.1 false<;>simp
   rw [e1,hL,List.filter_append,List.filter_cons]
   have e3:post.filter (fun x => !decide (x.1=i))=post:=List.filter_eq_self.2 (fun y hy=>by have:=hpost y hy;simp;omega)
   rw [e3]
   simp
  have hcl' : ∀(q:Nat) p,ops[q]? = some p→(listed.setIfInBounds i true).getD q false=true→∀j,depO p j=true→(listed.setIfInBounds i true).getD j false=true:=by
   intro q p hp hq j hj
   rw [Yk _ _ _ hlt] at hq ⊢
   simp only [Bool.or_eq_true,decide_eq_true_eq] at hq ⊢
   rcases hq with rfl|hq
   ·rw [ho'] at hp;cases hp;exact .inr (h2 j hj)
   ·exact .inr (hcl q p hp hq j hj)
  have hd' : ∀j,j < k→j < ops.length→(listed.setIfInBounds i true).getD j false=true:=by
   intro j hj hjl
   rw [Yk _ _ _ hlt,hd j hj hjl];simp
  have hnext:∀σ' a' w',SeqX P T C M ops.toArray base post Q σ'→Rel Φ0 W M σ' a' w'→wpAnyIn (FW r) 0 P .any ops.toArray Q' fuel (listed.setIfInBounds i true) a' w':=fun σ' a' w' hk hr' =>
   ih (listed.setIfInBounds i true) σ' a' w' (by have:=V0 listed i hlt h1;omega) (by simpa using hs) hcl' hd' (by rw [←hrem];exact hk) hr'
  unfold wpOpIn
  rw [ho]
  simp only
  rw [List.nil_append] at h
  rcases h with hp|⟨hg,hraw⟩
  ·have hs2:=X1w (Φ0:=Φ0) (W:=W) (M:=M) hT hall (base:=base) hbase ho (K':=wpAnyIn (FW r) 0 P .any ops.toArray Q' fuel (listed.setIfInBounds i true)) (Q':=Q') hnext hp hr
   split
   ·rename_i hw;rw [if_pos hw] at hs2;exact Vl (Vz (hall i o ho)) hs2
   ·rename_i hw;rw [if_neg hw] at hs2;exact ⟨fun _ _=>trivial,hs2⟩
  ·have hM:∀(j d:Nat),(ops.toArray[j]?).bind (·.dst)=some d→d < M:=by
    intro j d e
    obtain ⟨o',ho',e'⟩:=Option.bind_eq_some_iff.1 e
    exact (X5a (hall j o' ho')).1 d e'
   have hw:Region.wanted o (yielded ops.toArray a.tmps)=true:=by
    obtain ⟨Φ,μ,ω,hgr⟩:=hr
    exact X32 hgr hM hg
   rw [if_pos hw]
   exact Vl (Vz (hall i o ho)) (hraw _ _ _ _ hC (X5a (hall i o ho)).1 hr _ _ hnext)
theorem Xqf {C:Ent→World→Prop} {Φ0:Ent} {W:World} (hC:C Φ0 W) {base:Nat} (hT:T=Kf P) (hbase:base+ops.toArray.size≤1000000) (hall:∀(j:Nat) o,ops.toArray[j]? = some o→dstB M o=true) (hdraw:Xk6 ops=true) {k:Nat} (hbar:barB k ops=true)
  {Q:PS→Prop} {Q' : Exit→Act→World→Prop} (hQ:∀σ a w,Q σ→Rel Φ0 W M σ a w→Q' .normal a w) {r:Option Nat} :
  ∀(fuel:Nat) (listed:Array Bool) (σ:PS) (a:Act) (w:World),Ke listed≤fuel→listed.size=ops.length→(∀(i:Nat) o,ops[i]? = some o→listed.getD i false=true→∀j,depO o j=true→listed.getD j false=true)→(∀i,k≤i→listed.getD i false=false) →
   X5 P T ops.toArray base (okR ops base) ((Xa 0 ops).filter fun x=>decide (x.1 < k) && !listed.getD x.1 false) (SeqX P T C M ops.toArray base ((Xa 0 ops).filter fun x=>decide (k≤x.1)) Q) σ→Rel Φ0 W M σ a w→wpAnyIn (FW r) 0 P .any ops.toArray Q' fuel listed a w:=by
 obtain ⟨hE,hI⟩:=X6d hdraw
 have hsz:∀listed:Array Bool,listed.size=ops.length→listed.size=ops.toArray.size:=fun l h=>by simpa using h
 have two:∀(fuel:Nat) (listed:Array Bool) (σ:PS) (a:Act) (w:World),Ke listed≤fuel→listed.size=ops.length→(∀(i:Nat) o,ops[i]? = some o→listed.getD i false=true→∀j,depO o j=true→listed.getD j false=true)→(∀i,k≤i→listed.getD i false=false)→(∀j,j < k→j < ops.length→listed.getD j false=true) →
   X5 P T ops.toArray base (okR ops base) ((Xa 0 ops).filter fun x=>decide (x.1 < k) && !listed.getD x.1 false) (SeqX P T C M ops.toArray base ((Xa 0 ops).filter fun x=>decide (k≤x.1)) Q) σ→Rel Φ0 W M σ a w→wpAnyIn (FW r) 0 P .any ops.toArray Q' fuel listed a w:=by
  intro fuel listed σ a w hu hs hcl hk hd h hr
  have e1:((Xa 0 ops).filter fun x=>decide (x.1 < k) && !listed.getD x.1 false) = []:=by
   rw [List.filter_eq_nil_iff]
   intro x hx
   obtain ⟨-,h2⟩:=Yb 0 ops x hx
   have hl:x.1 < ops.length:=by have:=(List.getElem?_eq_some_iff.1 h2).1;omega
   by_cases hxk:x.1 < k
   ·rw [hd x.1 hxk hl];simp
   ·simp [hxk]
  rw [e1] at h
  refine Xqk hC hT hbase hall hbar hE hQ fuel listed σ a w hu hs hcl hd ?_ hr
  have e2:((Xa 0 ops).filter fun x => !listed.getD x.1 false)=(Xa 0 ops).filter fun x=>decide (k≤x.1):=by
   refine List.filter_congr fun x hx=>?_
   obtain ⟨-,h2⟩:=Yb 0 ops x hx
   have hl:x.1 < ops.length:=by have:=(List.getElem?_eq_some_iff.1 h2).1;omega
   by_cases hxk:k≤x.1
   ·rw [hk x.1 hxk,decide_eq_true hxk];rfl
   ·rw [hd x.1 O_ hl,decide_eq_false hxk];rfl
  rw [e2]
  exact h
 intro fuel
 induction fuel with
 |zero=>
  intro listed σ a w hu hs hcl hk h hr
  have hl:=Ky (Nat.le_zero.1 hu)
  rw [hs] at hl
  exact two 0 listed σ a w hu hs hcl hk (fun j _ hj=>hl j hj) h hr
 |succ fuel ih=>
  intro listed σ a w hu hs hcl hk h hr
  by_cases hd:∀j,j < k→j < ops.length→listed.getD j false=true
  ·exact two _ listed σ a w hu hs hcl hk hd h hr
  have hnall:∀(i:Nat),k≤i→∀o,ops[i]? = some o→(∀j,depO o j=true→listed.getD j false=true)→False:=by
   intro i hki o ho h2
   refine hd fun j hj hjl=>?_
   rcases Nat.lt_or_ge j i with hh|hh
   ·exact V1 hE hcl i o ho h2 j (Xk5 hbar ho hki hh)
   ·omega
  refine ⟨fun hrd=>?_,fun i hi=>?_⟩
  ·exfalso
   refine hd fun i _=>?_
   induction i using Nat.strongRecOn with
   |_ i ihi=>
    intro hi
    have ho:ops.toArray[i]? = some ops[i]:=by simp [hi]
    cases hl:listed.getD i false with
    |true=>rfl
    |false=>
     have:i∈Region.ready .any ops.toArray listed:=(Ym (hsz listed hs)).2 ⟨ops[i],ho,hl,fun j hj=>by
      obtain ⟨e,he,hb,rfl⟩:=X2t.1 hj
      have:=hE i ops[i] (by simp [hi]) e he hb
      exact ihi e.on this O_ O_⟩
     rw [hrd] at this;cases this
  obtain ⟨o,ho,h1,h2⟩:=(Ym (hsz listed hs)).1 hi
  have ho' : ops[i]? = some o:=by simpa using ho
  have hil:i < ops.length:=(List.getElem?_eq_some_iff.1 ho').1
  have hik:i < k:=Nat.lt_of_not_le fun hh=>hnall i hh o ho' h2
  have hmem:(i,o)∈(Xa 0 ops).filter fun x=>decide (x.1 < k) && !listed.getD x.1 false:=by
   rw [List.mem_filter]
   refine ⟨?_,by simp [h1,hik]⟩
   have:=X42 ops 0 i o ho'
   rwa [Nat.zero_add] at this
  obtain ⟨pre,post,hL⟩:=List.append_of_mem hmem
  have hsort:((Xa 0 ops).filter fun x=>decide (x.1 < k) && !listed.getD x.1 false).Pairwise (fun a b=>a.1 < b.1):=(Kz 0 ops).filter _
  rw [hL] at h hsort
  rw [List.pairwise_append] at hsort
  obtain ⟨-,hs2,hs3⟩:=hsort
  rw [List.pairwise_cons] at hs2
  have hpre:∀y∈pre,y.1 < i:=fun y hy=>hs3 y hy (i,o) S_
  have hpost:∀y∈post,i < y.1:=fun y hy=>hs2.1 y hy
  have hprem:∀y∈pre,ops[y.1]? = some y.2∧listed.getD y.1 false=false:=by
   intro y hy
   have:y∈(Xa 0 ops).filter fun x=>decide (x.1 < k) && !listed.getD x.1 false:=by rw [hL];simp [hy]
   rw [List.mem_filter] at this
   obtain ⟨-,q⟩:=Yb 0 ops y this.1
   have h3:=this.2
   simp only [Bool.and_eq_true,Bool.not_eq_true'] at h3
   exact ⟨by simpa using q,h3.2⟩
  have hb:=X5.bubble (P:=P) (T:=T) (ops:=ops.toArray) (base:=base) (ok:=okR ops base) (cl:=clos ops) (ix:=i) (x:=o) (post:=post) (Q:=SeqX P T C M ops.toArray base ((Xa 0 ops).filter fun x=>decide (k≤x.1)) Q) pre σ (by
   intro y hy
   obtain ⟨q1,q2⟩:=hprem y hy
   have hlt:=hpre y hy
   have hnc:y.1∉(clos ops).getD i []:=fun hc=>by
    rw [V1 hE hcl i o ho' h2 y.1 hc] at q2;cases q2
   have hyl:y.1 < ops.length:=(List.getElem?_eq_some_iff.1 q1).1
   refine ⟨⟨by simpa using (hI i y.1 o y.2 ho' q1 hlt).resolve_left hnc,fun hs j hj1 hj2=>Xmm (ops:=ops) q1 ho' (by simpa using hs) j hj1 hj2⟩,O_,?_,?_⟩
   ·rw [okR,Bool.and_eq_false_iff];left
    simp only [okD,Bool.or_eq_false_iff,decide_eq_false_iff_not]
    refine ⟨⟨O_,O_⟩,?_⟩
    rw [Nat.add_sub_cancel_left]
    simpa using hnc
   ·rw [okR,Bool.and_eq_false_iff];left
    simp only [okD,Bool.or_eq_false_iff,decide_eq_false_iff_not]
    refine ⟨⟨O_,O_⟩,?_⟩
    rw [Nat.add_sub_cancel_left]
    have:i∉(clos ops).getD y.1 []:=fun hc=>by have:=X8w hE y.1 y.2 q1 i hc;omega
    simpa using this) h
  have hlt:i < listed.size:=by rw [hs];exact hil
  have hrem:pre ++ post=(Xa 0 ops).filter fun x=>decide (x.1 < k) && !(listed.setIfInBounds i true).getD x.1 false:=by
   have e1:((Xa 0 ops).filter fun x=>decide (x.1 < k) && !(listed.setIfInBounds i true).getD x.1 false)=((Xa 0 ops).filter fun x=>decide (x.1 < k) && !listed.getD x.1 false).filter (fun x => !decide (x.1=i)):=by
    rw [List.filter_filter]
    congr 1
    funext x
    rw [Yk _ _ _ hlt]
    cases listed.getD x.1 false<;>simp [Bool.and_comm,Bool.and_left_comm]
   rw [e1,hL,List.filter_append,List.filter_cons]
   have e2:pre.filter (fun x => !decide (x.1=i))=pre:=List.filter_eq_self.2 (fun y hy=>by have:=hpre y hy;simp;omega)
   have e3:post.filter (fun x => !decide (x.1=i))=post:=List.filter_eq_self.2 (fun y hy=>by have:=hpost y hy;simp;omega)
   rw [e2,e3]
   simp
  have hcl' : ∀(q:Nat) p,ops[q]? = some p→(listed.setIfInBounds i true).getD q false=true→∀j,depO p j=true→(listed.setIfInBounds i true).getD j false=true:=by
   intro q p hp hq j hj
   rw [Yk _ _ _ hlt] at hq ⊢
   simp only [Bool.or_eq_true,decide_eq_true_eq] at hq ⊢
   rcases hq with rfl|hq
   ·rw [ho'] at hp;cases hp;exact .inr (h2 j hj)
   ·exact .inr (hcl q p hp hq j hj)
  have hk' : ∀q,k≤q→(listed.setIfInBounds i true).getD q false=false:=by
   intro q hq
   rw [Yk _ _ _ hlt,hk q hq]
   simp only [Bool.or_false,decide_eq_false_iff_not];omega
  have hstep:=X1w (Φ0:=Φ0) (W:=W) (M:=M) hT hall (base:=base) hbase ho (K':=wpAnyIn (FW r) 0 P .any ops.toArray Q' fuel (listed.setIfInBounds i true)) (Q':=Q') (fun σ' a' w' hkk hr' => ih (listed.setIfInBounds i true) σ' a' w' (by have:=V0 listed i hlt h1;omega) (by simpa using hs) hcl' hk' (by rw [←hrem];exact hkk) hr') hb hr
  unfold wpOpIn
  rw [ho]
  simp only
  split
  ·rename_i hw;rw [if_pos hw] at hstep;exact Vl (Vz (hall i o ho)) hstep
  ·rename_i hw;rw [if_neg hw] at hstep;exact ⟨fun _ _=>trivial,hstep⟩
def Xss (Φ0:Ent) (_:World):Prop:=∀g,Φ0.giv g→∀o,Φ0.imm g o=none
structure Xbc (σ:PS):Prop where
 t:∀t,(σ.t t).ownB=false
 b:∀id bs,σ.b id=some bs→∀c∈bs,c.ownB=false
 m:∀id X,σ.m id≠some X
theorem Xbc.bot:Xbc bot:=⟨fun _=>rfl,fun _ _ e=>(by cases e),fun _ _ e=>(by cases e)⟩
theorem Xbc.put {σ:PS} (h:Xbc σ) {d:Nat} {p:PV} (hp:p.ownB=false):Xbc (σ.put d p):=by
 refine ⟨fun t=>?_,h.b,h.m⟩
 simp only [PS.put,X8]
 split
 ·exact hp
 ·exact h.t t
theorem Xbc.setb {σ:PS} (h:Xbc σ) {i:Nat} {bs:List PV} (hp:∀c∈bs,c.ownB=false):Xbc (σ.setb i bs):=by
 refine ⟨h.t,fun id cs e=>?_,h.m⟩
 simp only [PS.setb,X8] at e
 split at e
 ·cases e;exact hp
 ·exact h.b id cs e
open Classical in
theorem RelG.boxed {Φ0:Ent} {W:World} {Φ:Imm} {μ:Nat→Option Nat} {ω:Nat→Option Who} {σ:PS} {a:Act} {w:World} (h:RelG Φ0 W M Φ μ ω σ a w) (hσ:Xbc σ):∃ω',RelG Φ0 W M Φ μ ω' σ a w∧∀g p,ω' g=some p→∀o,Φ g o=none:=by
 let ω' : Nat→Option Who:=fun g=>if ∀o,Φ g o=none then ω g else none
 have h1:∀g p,ω' g=some p→ω g=some p∧∀o,Φ g o=none:=by
  intro g p e
  have e' : (if ∀o,Φ g o=none then ω g else none)=some p:=e
  split at e'
  ·rename_i hm;exact ⟨e',hm⟩
  ·cases e'
 refine ⟨ω',⟨h.below,h.defers,h.size,h.imm,h.old,h.tmps,fun t n k cs E e=>?_,fun id bs e=>?_,h.gone,fun g p e=>h.lt g p (h1 g p e).1,h.gmu,h.kmu,h.ext,fun id X e=>absurd e (hσ.m id X),fun g p e=>h.mine g p (h1 g p e).1⟩,fun g p e=>(h1 g p e).2⟩
 ·have:=hσ.t t
  rw [e] at this;simp [PV.ownB] at this
 ·obtain ⟨g,cur,Ty,k1,k2,k3,k4,k5,k6,k7⟩:=h.box id bs e
  refine ⟨g,cur,Ty,k1,k2,k3,?_,k5,k6,fun j c hc=>?_⟩
  ·show (if _ then _ else _)=_
   rw [if_pos k5];exact k4
  ·obtain ⟨u,r1,r2,r3,-⟩:=k7 j c hc
   refine ⟨u,r1,r2,r3,fun n k cs E ec=>?_⟩
   have:=hσ.b id bs e c (Xc hc)
   rw [ec] at this;simp [PV.ownB] at this
theorem PW.drawX {Q:Exit→PS→Prop} {σ:PS} (k:Nat) (hσ:Xbc σ) (hT:T=Kf P) (hm:P.follows .mixedOrders=true) {id:Nat} (hall2:(ops.all (dstB M) && Nat.ble (1000 * id+ops.length) 1000000)=true) (hd:Xk6 ops=true) (hbar:barB k ops=true)
  (h:X5 P T ops.toArray (1000 * id) (okR ops (1000 * id)) ((Xa 0 ops).filter fun x=>decide (x.1 < k)) (SeqX P T Xss M ops.toArray (1000 * id) ((Xa 0 ops).filter fun x=>decide (k≤x.1)) (Q .normal)) σ):PW P M (.region id ops.toArray true) Q σ:=by
 intro Φ0 W a w hr
 obtain ⟨Φ,μ,ω0,hg0⟩:=hr
 obtain ⟨ω,hg,hω⟩:=hg0.boxed hσ
 have hf:=hg.fresh0 (mu:=Φ0.mu) hg.gmu hg.kmu
 have hC:Xss (hg.freshE Φ0.mu) w:=by
  rintro g ⟨p,e⟩ o
  show freshI Φ0.imm Φ ω g o=none
  rw [Zb ⟨p,e⟩]
  cases hh:Φ0.imm g o with
  |none=>rfl
  |some u=>rw [←(hg.ext g o u hh).1,hω g p e]
 have hall2':=hall2
 simp only [Bool.and_eq_true] at hall2'
 obtain ⟨hall,hb0⟩:=hall2'
 have hbase:=Nat.le_of_ble_eq_true hb0
 refine wpIn_region_any hm ?_
 refine Xqf (C:=Xss) (Φ0:=hg.freshE Φ0.mu) (W:=w) hC (M:=M) (base:=1000 * id) (k:=k) (Q:=Q .normal) hT (by simpa using hbase) (by
  intro j o hj
  exact List.all_eq_true.1 hall o (Xc (by simpa using hj))) hd hbar (fun σ' a' w' hq hrel=>?_) _ _ σ a _ ?_ S_ ?_ ?_ ?_ ⟨Φ,μ,ω,hf.drew⟩
 ·obtain ⟨Φ',μ',ω',hrel⟩:=hrel
  obtain ⟨Φ3,W3,h1,-,h2⟩:=hg.unfresh (Z4.refl _ _) hrel
  exact ⟨_,Φ3,W3,hq,h1,Φ',μ',ω',h2⟩
 ·unfold Ke
  exact Nat.le_trans List.countP_le_length S_
 ·intro i o ho hl
  simp [Array.getD_eq_getD_getElem?,Array.getElem?_replicate] at hl
  split at hl<;>simp_all
 ·intro i _
  simp [Array.getD_eq_getD_getElem?,Array.getElem?_replicate]
  split<;>rfl
 ·have:((Xa 0 ops).filter fun x=>decide (x.1 < k) && !(Array.replicate ops.toArray.size false).getD x.1 false)=(Xa 0 ops).filter fun x=>decide (x.1 < k):=by
   refine List.filter_congr fun x _=>?_
   simp [Array.getD_eq_getD_getElem?,Array.getElem?_replicate]
   intro _
   split<;>rfl
  rw [this]
  exact h
end
section
open Go.RowKit
variable {P:Program} {T:Tab} {σ:PS} {o:Oper} {i base:Nat} {ops:Array Oper} {ok:Nat→Nat→Bool} {rest:List (Nat×Oper)} {K:PS→Prop}
theorem X2j {d:Nat} {p:PV} (hg:Xk ops σ o=some true) (hd:o.dst=some d) (hE:presE T (Yr ops o.dst) (base+i) (σ.only (ok i)) o.op=some ⟨p,[],none,[]⟩) (hb:σ.freeB (base+i)=true) (k:X5 P T ops base ok rest K (σ.put d p)):X5 P T ops base ok ((i,o) :: rest) K σ:=
 X5.valEq hg hd hE rfl hb k
theorem X5.idxM {d n k m e by_ o' : Nat} {z:Int} {zr:List PV} {kk:IntKind} {x ix:Operand} {t:TypeId} {ti:TyI} (hg:Xk ops σ o=some true) (hd:o.dst=some d) (hop:o.op = .indexAddr t x ix) (hx:pev σ x = .msl m o' n k) (hi:pev σ ix = .val (.int kk z)) (ht:T.at t=some ti) (hk:ti.kind = .slice e k by_ zr) (hb:σ.freeB (base+i)=true) (h0:0≤z∧z < n)
  (kn:X5 P T ops base ok rest K (σ.put d (.ptr m (o' + z.toNat * k)))):X5 P T ops base ok ((i,o) :: rest) K σ:=by
 refine X2j hg hd ?_ hb kn
 have h1:k=k∧(0:Int)≤z∧z < (n:Int):=⟨rfl,h0.1,h0.2⟩
 simp [hop,presE,V5,pval,Xv,hx,hi,ht,hk,X2x,h1]
theorem X5.idxP {d n k m o' : Nat} {e:TypeId} {ag:Bool} {z:Int} {kk:IntKind} {x ix:Operand} {t:TypeId} {ti:TyI} (hg:Xk ops σ o=some true) (hd:o.dst=some d) (hop:o.op = .indexAddr t x ix) (hx:pev σ x = .ptr m o') (hi:pev σ ix = .val (.int kk z)) (ht:T.at t=some ti) (hk:ti.kind = .arr n e k ag) (hb:σ.freeB (base+i)=true) (h0:0≤z∧z < n)
  (kn:X5 P T ops base ok rest K (σ.put d (.ptr m (o' + z.toNat * k)))):X5 P T ops base ok ((i,o) :: rest) K σ:=by
 refine X2j hg hd ?_ hb kn
 have h1:(0:Int)≤z∧z < (n:Int):=h0
 simp [hop,presE,V5,pval,Xv,hx,hi,ht,hk,X2x,h1]
theorem Xe9 {hd:Bool} {b:Nat→Option (List PV)} {t:TypeId} {id off:Nat} {bs:List PV} {ti:TyI} (hb:b id=some bs) (ht:T.at t=some ti) (h:ti.agg=true∨∃c,bs[off]? = some c∧c.ownB=false):X0u T hd b t (.ptr id off)=none:=by
 simp only [X0u]
 split
 ·rw [hb]
  simp only
  rcases h with h|⟨c,hc,h⟩
  ·split
   ·rw [ht];simp [h]
   ·rfl
  ·rw [hc]
   cases c with
   |sl n k cs own=>cases own with
    |none=>rfl
    |some E=>simp [PV.ownB] at h
   |_=>rfl
 ·rfl
theorem X5.ldBA {d off m id:Nat} {bs row:List PV} {x:Operand} {t:TypeId} {kd:TD} {zr:List PV} {es:List SK} (hg:Xk ops σ o=some true) (hd:o.dst=some d) (hop:o.op = .load t x) (hx:pev σ x = .ptr id off) (ht:T.at t=some ⟨m,true,kd,zr,es⟩) (hb:σ.freeB (base+i)=true) (hbs:(σ.only (ok i)).b id=some bs) (hl:off+m≤bs.length) (hr:((bs.drop off).take m).map PV.bare=row)
  (kn:X5 P T ops base ok rest K (σ.put d (.agg row))):X5 P T ops base ok ((i,o) :: rest) K σ:=by
 refine X5.valEq hg hd (p:=.agg (((bs.drop off).take m).map PV.bare)) ?_ (by rw [hr]) hb kn
 have h1:=Xe9 (T:=T) (hd:=Yr ops o.dst) (off:=off) hbs ht (.inl rfl)
 simp only [hop,presE,Xv,hx,h1,V5,pval,ht,Zj,hbs,X6f,if_true,hl,Option.map_some]
theorem X5.ldB {d off id:Nat} {bs:List PV} {c:PV} {x:Operand} {t:TypeId} {ti:TyI} (hg:Xk ops σ o=some true) (hd:o.dst=some d) (hop:o.op = .load t x) (hx:pev σ x = .ptr id off) (ht:T.at t=some ti) (ha:ti.agg=false) (hb:σ.freeB (base+i)=true) (hbs:(σ.only (ok i)).b id=some bs) (hc:bs[off]? = some c) (hn:c.ownB=false)
  (kn:X5 P T ops base ok rest K (σ.put d c)):X5 P T ops base ok ((i,o) :: rest) K σ:=by
 refine X5.valEq hg hd (p:=c) ?_ rfl hb kn
 have h1:=Xe9 (T:=T) (hd:=Yr ops o.dst) (off:=off) hbs ht (.inr ⟨c,hc,hn⟩)
 simp only [hop,presE,Xv,hx,h1,V5,pval,ht,Zj,hbs,X6f,ha,hc,Bool.false_eq_true,if_false,Option.map_some,PV.bare_of _ hn]
theorem X5.stB {off id:Nat} {bs new out:List PV} {x y:Operand} {t:TypeId} {ti:TyI} (hg:Xk ops σ o=some true) (hd:o.dst=none) (hop:o.op = .store t x y) (hx:pev σ x = .ptr id off) (hn:(Kj σ y).ownB=false) (hp:X01 (pev σ y)=some new) (ht:T.at t=some ti) (hb:σ.freeB (base+i)=true) (hbs:(σ.only (ok i)).b id=some bs) (hl:new.length=ti.size∧off+new.length≤bs.length) (hout:Y5 bs off new=out)
  (kn:X5 P T ops base ok rest K (σ.setb id out)):X5 P T ops base ok ((i,o) :: rest) K σ:=by
 refine X5.step hg (E:=⟨.tup [],[(id,out)],none,[]⟩) ?_ hb ?_
 ·have hn' : (Kj (σ.only (ok i)) y).ownB=false:=by cases y<;>exact hn
  have hl1:=hl.1
  have hl2:=hl.2
  have hsp:=Zh _ _ _ hl2
  rw [hout] at hsp
  simp only [hop,presE,Xv,hx,hn',hbs,ht,hp,Bool.false_eq_true,if_false]
  rw [if_pos ⟨hl1,hl2⟩,hsp]
 ·rw [hd];exact kn
theorem X5.ldAll {d m id:Nat} {cs:List PV} {x:Operand} {t:TypeId} {kd:TD} {zr:List PV} {es:List SK} (hg:Xk ops σ o=some true) (hd:o.dst=some d) (hop:o.op = .load t x) (hx:pev σ x = .ptr id 0) (ht:T.at t=some ⟨m,true,kd,zr,es⟩) (hb:σ.freeB (base+i)=true) (hbs:(σ.only (ok i)).b id=some cs) (hl:cs.length=m) (hr:cs.map PV.bare=cs)
  (kn:X5 P T ops base ok rest K (σ.put d (.agg cs))):X5 P T ops base ok ((i,o) :: rest) K σ:=
 X5.ldBA hg hd hop hx ht hb hbs O_ (by rw [List.drop_zero,H_ O_];exact hr) kn
theorem X5.stAll {id:Nat} {bs new:List PV} {x y:Operand} {t:TypeId} {ti:TyI} (hg:Xk ops σ o=some true) (hd:o.dst=none) (hop:o.op = .store t x y) (hx:pev σ x = .ptr id 0) (hn:(Kj σ y).ownB=false) (hv:pev σ y = .agg new) (ht:T.at t=some ti) (hb:σ.freeB (base+i)=true) (hbs:(σ.only (ok i)).b id=some bs) (hl:new.length=ti.size) (hl2:bs.length=ti.size) (ho:new.all PV.one=true) (hr:new.map PV.bare=new)
  (kn:X5 P T ops base ok rest K (σ.setb id new)):X5 P T ops base ok ((i,o) :: rest) K σ:=
 X5.stB hg hd hop hx hn (new:=new) (by rw [hv];simp only [X01,ho,if_true,hr]) ht hb hbs ⟨hl,O_⟩ (by
  have:Y5 bs 0 new=new:=by unfold Y5;simp;omega
  exact this) kn
theorem X5.boxA {d:Nat} {cs:List PV} {x:Operand} {t:TypeId} (hg:Xk ops σ o=some true) (hd:o.dst=some d) (hop:o.op = .box t x) (hx:pev σ x = .agg cs) (hb:σ.freeB (base+i)=true) (ho:cs.all PV.one=true) (hr:cs.map PV.bare=cs)
  (kn:X5 P T ops base ok rest K ((σ.setb (base+i) cs).put d (.ptr (base+i) 0))):X5 P T ops base ok ((i,o) :: rest) K σ:=by
 refine X5.step hg (E:=⟨.ptr (base+i) 0,[(base+i,cs)],none,[]⟩) ?_ hb (by rw [hd];exact kn)
 have h1:(σ.only (ok i)).b (base+i)=none∧(σ.only (ok i)).m (base+i)=none:=by
  obtain ⟨q1,q2⟩:=PS.freeB_spec hb
  simp only [PS.only,q1,q2]
  constructor<;>split<;>rfl
 simp only [hop,presE,Xv,hx,X01,ho,if_true,hr,h1.1,h1.2]
theorem Yq {id:Nat} {cs:List PV} {x:Nat} {ty:TypeId} {m:Nat} {kd:TD} {zr:List PV} {es:List SK} (hx:(σ.t x).bare = .ptr id 0) (ht:T.at ty=some ⟨m,true,kd,zr,es⟩) (hb:σ.b id=some cs) (hl:cs.length=m) (hr:cs.map PV.bare=cs):Xdw T σ (.cell x ty)=some (.agg cs):=by
 simp only [Xdw,ht,hx,Zj,hb,X6f,if_true]
 rw [if_pos O_,List.drop_zero,H_ O_,hr]
theorem X67 {x y:ResultVar} {p q:PV} (h1:Xdw T σ x=some p) (h2:Xdw T σ y=some q):V7 T σ [x,y]=some (.tup [p.bare,q.bare]):=by
 simp [V7,h1,h2]
theorem Vb {x:ResultVar} {p:PV} (h1:Xdw T σ x=some p):V7 T σ [x]=some p:=h1
theorem X5.ldRB {α:Type} [Inhabited α] {d j k:Nat} {f:α→List PV} {l:List α} {x:Operand} {t:TypeId} {kd:TD} {zr:List PV} {es:List SK} (hg:Xk ops σ o=some true) (hd:o.dst=some d) (hop:o.op = .load t x) (hx:pev σ x = .ep (l.flatMap f) (j * k)) (ht:T.at t=some ⟨k,true,kd,zr,es⟩) (hb:σ.freeB (base+i)=true) (hk:∀x,(f x).length=k) (hl:j < l.length) (hr:∀x,(f x).map PV.bare=f x)
  (kn:X5 P T ops base ok rest K (σ.put d (.agg (f (l.getD j default))))):X5 P T ops base ok ((i,o) :: rest) K σ:=by
 refine X5.ldA hg hd hop hx ht hb ?_ ?_ kn
 ·rw [Kk hk]
  have:=Nat.mul_le_mul_right k (show j+1≤l.length from hl)
  rw [Nat.succ_mul] at this;exact this
 ·rw [Vq hk (X0e default hl)];exact hr _
theorem Xev {α:Type} {f:α→List PV} {k:Nat} (hk:∀x,(f x).length=k) {l:List α} {j:Nat} {x:α} (h:j < l.length):Y5 (l.flatMap f) (j * k) (f x)=(l.set j x).flatMap f:=by
 unfold Y5
 rw [X5i hk,hk,show j * k+k=(j+1) * k by rw [Nat.succ_mul],X58 hk]
 rw [List.set_eq_take_append_cons_drop,if_pos h]
 simp [List.flatMap_append]
theorem X5.ldBR {α:Type} [Inhabited α] {d j k id:Nat} {f:α→List PV} {l:List α} {row:List PV} {x:Operand} {t:TypeId} {kd:TD} {zr:List PV} {es:List SK} (hg:Xk ops σ o=some true) (hd:o.dst=some d) (hop:o.op = .load t x) (hx:pev σ x = .ptr id (0+j * k)) (ht:T.at t=some ⟨k,true,kd,zr,es⟩) (hb:σ.freeB (base+i)=true) (hbs:(σ.only (ok i)).b id=some (l.flatMap f)) (hk:∀x,(f x).length=k) (hl:j < l.length) (hr:(f (l.getD j default)).map PV.bare=row)
  (kn:X5 P T ops base ok rest K (σ.put d (.agg row))):X5 P T ops base ok ((i,o) :: rest) K σ:=by
 refine X5.ldBA hg hd hop hx ht hb hbs ?_ ?_ kn
 ·rw [Kk hk]
  have:=Nat.mul_le_mul_right k (show j+1≤l.length from hl)
  rw [Nat.succ_mul] at this;omega
 ·rw [Nat.zero_add,Vq hk (X0e default hl)];exact hr
theorem X5.ldBC {α:Type} [Inhabited α] {d j k r id:Nat} {f:α→List PV} {l:List α} {c:PV} {x:Operand} {t:TypeId} {ti:TyI} (hg:Xk ops σ o=some true) (hd:o.dst=some d) (hop:o.op = .load t x) (hx:pev σ x = .ptr id (0+j * k+r)) (ht:T.at t=some ti) (ha:ti.agg=false) (hb:σ.freeB (base+i)=true) (hbs:(σ.only (ok i)).b id=some (l.flatMap f)) (hk:∀x,(f x).length=k) (hl:j < l.length) (hc:(f (l.getD j default))[r]? = some c) (hn:c.ownB=false)
  (kn:X5 P T ops base ok rest K (σ.put d c)):X5 P T ops base ok ((i,o) :: rest) K σ:=
 X5.ldB hg hd hop hx ht ha hb hbs (by rw [Nat.zero_add];exact Vr hk (X0e default hl) hc) hn kn
theorem X5.stBR {α:Type} {j k id:Nat} {f:α→List PV} {l:List α} {v:α} {x y:Operand} {t:TypeId} {ti:TyI} (hg:Xk ops σ o=some true) (hd:o.dst=none) (hop:o.op = .store t x y) (hx:pev σ x = .ptr id (0+j * k)) (hn:(Kj σ y).ownB=false) (hp:X01 (pev σ y)=some (f v)) (ht:T.at t=some ti) (hb:σ.freeB (base+i)=true) (hbs:(σ.only (ok i)).b id=some (l.flatMap f)) (hk:∀x,(f x).length=k) (hl:j < l.length) (hs:ti.size=k)
  (kn:X5 P T ops base ok rest K (σ.setb id ((l.set j v).flatMap f))):X5 P T ops base ok ((i,o) :: rest) K σ:=by
 refine X5.stB hg hd hop hx hn hp ht hb hbs ⟨by rw [hk,hs],?_⟩ ?_ kn
 ·rw [Kk hk,hk]
  have:=Nat.mul_le_mul_right k (show j+1≤l.length from hl)
  rw [Nat.succ_mul] at this;omega
 ·rw [Nat.zero_add];exact Xev hk hl
theorem X5.lkp {d mid clock kt et:Nat} {x k:Operand} {t:TypeId} {okk:Bool} {es:List (Nat×PV×PV)} {kv:Value} {ti ki ei:TyI} {c:PV} {b:Bool} (hg:Xk ops σ o=some true) (hd:o.dst=some d) (hop:o.op = .lookup t x k okk) (hx:pev σ x = .mref mid) (hm:(σ.only (ok i)).m mid=some (.map es clock)) (hkv:pev σ k = .val kv) (ht:T.at t=some ti) (hk:ti.kind = .map kt et) (hki:T.at kt=some ki) (hei:T.at et=some ei) (hb:σ.freeB (base+i)=true)
  (hget:mget ki ei es kv=some (c,b)) (kn:X5 P T ops base ok rest K (σ.put d (if okk then .tup [c, .val (.bool b)] else c))):X5 P T ops base ok ((i,o) :: rest) K σ:=by
 refine X5.valEq hg hd (p:=if okk then .tup [c, .val (.bool b)] else c) ?_ rfl hb kn
 simp only [hop,presE,V5,pval,X2k,ht,hk,X71,Xv,hx,hkv,hki,hei,Xgs,hm,hget,Option.map_some]
theorem X5.lkpO {d mid clock kt et j s n kk:Nat} {x k:Operand} {t:TypeId} {es:List (Nat×PV×PV)} {kp:PV} {cs:List PV} {E:TypeId} {kv:Value} {ti ki:TyI} {sk:SK} (hg:Xk ops σ o=some true) (hd:o.dst=some d) (hop:o.op = .lookup t x k false) (hx:pev σ x = .mref mid) (hm:(σ.only (ok i)).m mid=some (.map es clock)) (hkv:pev σ k = .val kv) (ht:T.at t=some ti) (hk:ti.kind = .map kt et) (hki:T.at kt=some ki) (hb:σ.freeB (base+i)=true) (hh:Yr ops o.dst=true)
  (hko:X6j ki.kind kv=true) (hsk:skT ki.kind=some sk) (hf:X0h sk kv es 0=some (some j)) (hj:es[j]? = some (s,kp, .sl n kk cs (some E))) (kn:X5 P T ops base ok rest K ((σ.setm mid (.map (es.set j (s,kp, .sl n kk cs none)) clock)).put d (.sl n kk cs (some E)))):X5 P T ops base ok ((i,o) :: rest) K σ:=by
 refine X5.stepM hg (E:=⟨.sl n kk cs (some E),[],none,[(mid, .map (es.set j (s,kp, .sl n kk cs none)) clock)]⟩) ?_ hb ?_
 ·simp only [hop,Zf,hh,Xgu,ht,hk,hki,Xv,hx,X7f,hm,hkv,hko,hsk,hf,hj,if_true,true_and]
 ·rw [hd];exact kn
theorem X5.mput {mid clock kt et:Nat} {x k v:Operand} {t:TypeId} {es:List (Nat×PV×PV)} {kv:Value} {ti ki:TyI} {X:PMap} {p:PV} (hg:Xk ops σ o=some true) (hd:o.dst=none) (hop:o.op = .mapUpdate t x k v) (hx:pev σ x = .mref mid) (hm:(σ.only (ok i)).m mid=some (.map es clock)) (hkv:pev σ k = .val kv) (ht:T.at t=some ti) (hk:ti.kind = .map kt et) (hki:T.at kt=some ki) (hb:σ.freeB (base+i)=true)
  (hn:(Kj σ v).ownB=false) (hv:pev σ v=p) (hput:Go.Proofs.YtmciloafahkolaaGreatDoor.mput ki es clock kv p=some X) (kn:X5 P T ops base ok rest K (σ.setm mid X)):X5 P T ops base ok ((i,o) :: rest) K σ:=by
 refine X5.stepM hg (E:=⟨.tup [],[],none,[(mid,X)]⟩) ?_ hb ?_
 ·have hn' : (Kj (σ.only (ok i)) v).ownB=false:=by cases v<;>exact hn
  simp only [hop,Zf,pput,ht,hk,hki,Xv,hx,X7f,hm,hkv,X4q,hn',Bool.false_eq_true,if_false,hv,hput,Option.map_some]
 ·rw [hd];exact kn
theorem X5.mputO {mid clock kt et s n kk:Nat} {x k:Operand} {t:TypeId} {es:List (Nat×PV×PV)} {kv:Value} {ti ki:TyI} {X:PMap} {cs:List PV} {E:TypeId} (hg:Xk ops σ o=some true) (hd:o.dst=none) (hop:o.op = .mapUpdate t x k (.tmp s)) (hx:pev σ x = .mref mid) (hm:(σ.only (ok i)).m mid=some (.map es clock)) (hkv:pev σ k = .val kv) (ht:T.at t=some ti) (hk:ti.kind = .map kt et) (hki:T.at kt=some ki) (hb:σ.freeB (base+i)=true)
  (hs:σ.t s = .sl n kk cs (some E)) (hput:Go.Proofs.YtmciloafahkolaaGreatDoor.mput ki es clock kv (.sl n kk cs (some E))=some X) (kn:X5 P T ops base ok rest K ((σ.put s (.sl n kk cs none)).setm mid X)):X5 P T ops base ok ((i,o) :: rest) K σ:=by
 refine X5.stepM hg (E:=⟨.tup [],[],some s,[(mid,X)]⟩) ?_ hb ?_
 ·have hs' : Kj (σ.only (ok i)) (.tmp s) = .sl n kk cs (some E):=hs
  simp only [hop,Zf,pput,ht,hk,hki,Xv,hx,X7f,hm,hkv,X4q,hs',PV.ownB,if_true,X3u,hput,Option.map_some]
 ·rw [hd]
  simp only [PS.app,hs,List.foldl_nil,List.foldl_cons]
  exact kn
theorem X5.mdel {mid clock kt et:Nat} {x k:Operand} {t:TypeId} {tl:List TypeId} {es:List (Nat×PV×PV)} {kv:Value} {ti ki:TyI} {X:PMap} (hg:Xk ops σ o=some true) (hd:o.dst=none) (hop:o.op = .call { callee:=.builtin .delete,args := #[x,k],argTypes:=(t :: tl).toArray }) (hx:pev σ x = .mref mid) (hm:(σ.only (ok i)).m mid=some (.map es clock)) (hkv:pev σ k = .val kv) (ht:T.at t=some ti) (hk:ti.kind = .map kt et) (hki:T.at kt=some ki) (hb:σ.freeB (base+i)=true)
  (hdel:Go.Proofs.YtmciloafahkolaaGreatDoor.mdel ki es clock kv=some X) (kn:X5 P T ops base ok rest K (σ.setm mid X)):X5 P T ops base ok ((i,o) :: rest) K σ:=by
 refine X5.stepM hg (E:=⟨.tup [],[],none,[(mid,X)]⟩) ?_ hb ?_
 ·simp only [hop,Zf,pdel,ht,hk,hki,Xv,hx,X7f,hm,hkv,hdel,Option.map_some]
 ·rw [hd];exact kn
theorem X5.copy {d n k e by_ id o' n2:Nat} {bs cs out zr:List PV} {x y:Operand} {t:TypeId} {tl:List TypeId} {ti:TyI} (hg:Xk ops σ o=some true) (hop:o.op = .call { callee:=.builtin .copy,args := #[x,y],argTypes:=(t :: tl).toArray }) (hd:o.dst=some d) (hx:pev σ x = .msl id o' n k) (hbs:(σ.only (ok i)).b id=some bs) (hy:X36 (σ.only (ok i)).b k (pev σ y)=some (n2,cs)) (ht:T.at t=some ti) (hk:ti.kind = .slice e k by_ zr) (hb:σ.freeB (base+i)=true)
  (hl:o' + min n2 n * k≤bs.length) (hcl:min n2 n * k≤cs.length) (hout:Y5 bs o' (cs.take (min n2 n * k))=out) (kn:X5 P T ops base ok rest K ((σ.setb id out).put d (.val (.int .i64 (min n2 n:Nat))))):X5 P T ops base ok ((i,o) :: rest) K σ:=by
 refine X5.stepM hg (E:=⟨.val (.int .i64 (min n2 n:Nat)),[(id,out)],none,[]⟩) ?_ hb ?_
 ·have e1:o' + (cs.take (min n2 n * k)).length≤bs.length:=by rw [T_,Nat.min_eq_left hcl];exact hl
  simp only [hop,Zf,ht,Xjz,hk,Xv,hx,hbs,hy,hl,and_self,if_true,Zh _ _ _ e1,hout]
 ·rw [hd];exact kn
theorem X5.eqA {d:Nat} {op:BinOp} {xs ys:List PV} {x y:Operand} {t yt:TypeId} {ti:TyI} {b:Bool} (hg:Xk ops σ o=some true) (hd:o.dst=some d) (hop:o.op = .binOp op t x y yt) (hx:pev σ x = .agg xs) (hy:pev σ y = .agg ys) (ht:T.at t=some ti) (hb:σ.freeB (base+i)=true) (hne:ti.eqs.isEmpty=false) (h:peqs ti.eqs xs ys=some b) (ho:op = .eql∨op = .neq) (kn:X5 P T ops base ok rest K (σ.put d (.val (.bool (if op = .eql then b else !b))))):X5 P T ops base ok ((i,o) :: rest) K σ:=by
 refine X5.valEq hg hd (p:=.val (.bool (if op = .eql then b else !b))) ?_ rfl hb kn
 have:Xzd op ti.eqs xs ys=some (.bool (if op = .eql then b else !b)):=by
  unfold Xzd
  cases he:ti.eqs with
  |nil=>rw [he] at hne;cases hne
  |cons k ks=>
   rw [he] at h
   rcases ho with rfl|rfl
   ·simp [h]
   ·simp [h]
 simp only [hop,presE,V5,pval,Xv,hx,hy,ht,this,Option.map_some]
theorem X5e {k:IntKind} : ∀(xs ys:List Int),xs.length=ys.length→peqs (List.replicate xs.length .int) (xs.map fun x=>.val (.int k x)) (ys.map fun x=>.val (.int k x))=some (xs == ys)
 | [],[],_=>rfl
 |x :: xs,y :: ys,h=>by
  have ih:=X5e (k:=k) xs ys (by simpa using h)
  simp only [C_,List.replicate_succ,List.map_cons,peqs,veq,if_true,ih]
  rfl
 | [],y :: ys,h=>by simp at h
 |x :: xs,[],h=>by simp at h
theorem X5.shlK {d:Nat} {k k' : IntKind} {x y:Int} {X Y:Operand} {t yt:TypeId} (hg:Xk ops σ o=some true) (hd:o.dst=some d) (hop:o.op = .binOp .shl t X Y yt) (hx:pev σ X = .val (.int k x)) (hy:pev σ Y = .val (.int k' y)) (hb:σ.freeB (base+i)=true) (h0:0≤y) (kn:X5 P T ops base ok rest K (σ.put d (.val (.int k (k.wrap (x * 2 ^ (min y.toNat k.bits))))))):X5 P T ops base ok ((i,o) :: rest) K σ:=by
 refine X5.valEq hg hd (p:=.val (.int k (k.wrap (x * 2 ^ (min y.toNat k.bits))))) ?_ rfl hb kn
 simp only [hop,presE,V5,pval,Xv,hx,hy,pbin,h0,if_true]
 rfl
theorem X5.shrK {d:Nat} {k k' : IntKind} {x y:Int} {X Y:Operand} {t yt:TypeId} (hg:Xk ops σ o=some true) (hd:o.dst=some d) (hop:o.op = .binOp .shr t X Y yt) (hx:pev σ X = .val (.int k x)) (hy:pev σ Y = .val (.int k' y)) (hb:σ.freeB (base+i)=true) (h0:0≤y) (kn:X5 P T ops base ok rest K (σ.put d (.val (.int k (x.fdiv (2 ^ (min y.toNat k.bits))))))):X5 P T ops base ok ((i,o) :: rest) K σ:=by
 refine X5.valEq hg hd (p:=.val (.int k (x.fdiv (2 ^ (min y.toNat k.bits))))) ?_ rfl hb kn
 simp only [hop,presE,V5,pval,Xv,hx,hy,pbin,h0,if_true]
 rfl
theorem X5.litA {d k e by_:Nat} {cs zr:List PV} {x:Operand} {t:TypeId} {ti:TyI} (hg:Xk ops σ o=some true) (hd:o.dst=some d) (hop:o.op = .buildSlice t 1 #[(0,x)]) (hx:pev σ x = .agg cs) (ht:T.at t=some ti) (hk:ti.kind = .slice e k by_ zr) (hb:σ.freeB (base+i)=true) (hl:cs.length=k) (hz:zr.length=k) (hk2:Nat.ble k 16777216=true) (he:Nat.blt e 1000000=true) (ho:cs.all PV.one=true) (hr:cs.map PV.bare=cs) (kn:X5 P T ops base ok rest K (σ.put d (.sl 1 k cs (some e)))):X5 P T ops base ok ((i,o) :: rest) K σ:=by
 refine X5.step hg (E:=⟨.sl 1 k cs (some e),[],none,[]⟩) ?_ hb (by rw [hd];exact kn)
 have e1:(List.replicate 1 zr).flatten=zr:=S_
 have hle:1 * k≤16777216:=by have:=Nat.le_of_ble_eq_true hk2;omega
 have he' : e < 1000000:=by simpa [Nat.blt_eq] using he
 have hs:splF zr 0 cs=cs:=by
  rw [Zh _ _ _ O_]
  unfold Y5;simp;omega
 simp only [hop,presE,ht,hk,hle,he',and_self,if_true,e1,List.map_cons,List.map_nil,Xv,hx,X11,X01,ho,hr,hl,hz,Nat.zero_mul,Nat.zero_add,Nat.le_refl,and_self,hs,Option.map_some]
theorem PW.stamps {M:Nat} {c:Code} {Q:Exit→PS→Prop} {id clock:Nat} {es:List (Nat×PV×PV)} (hm:σ.m id=some (.map es clock)) (h:X41 es clock→PW P M c Q σ):PW P M c Q σ:=by
 intro Φ0 W a w hr
 obtain ⟨Φ,μ,ω,hg⟩:=hr
 obtain ⟨g,-,-,-,-,hst,-⟩:=hg.map id _ hm
 exact h hst Φ0 W a w ⟨Φ,μ,ω,hg⟩
theorem Xw9 {w:World} {g gm since last clock:Nat} {seen:Array Nat} {ents:Array MapEntry} (ty:TypeId) (hit:w.heap[g]? = some (.mapIter (some gm) since seen last)) (hm:w.heap[gm]? = some (.map ents clock)) (hcl:seen.isEmpty=true∨ents.isEmpty=true∨∃e∈ents,e.born < last) :
  ((∀e∈ents,e.born < since→seen.contains e.born=true)∧∃w1,(w1=w∨w1=w.drew)∧(Instr.next (.pointer (some ⟨g,0,none⟩)) false ty).run P w = .ok (.tuple #[.bool false]) w1) ∨
  ∃e∈ents,seen.contains e.born=false∧∃w1,(w1=w∨w1=w.drew)∧(Instr.next (.pointer (some ⟨g,0,none⟩)) false ty).run P w = .ok (.tuple #[.bool true,e.key,e.val]) (World.setO w1 g (.mapIter (some gm) since (seen.push e.born) clock)):=by
 have h1:(getObj g).run P w = .ok (.mapIter (some gm) since seen last) w:=by simp [getObj,Sem.run,hit]
 have h2:=Go.run_getObj_map (P:=P) (w:=w) gm ents clock hm
 have h3:(!seen.isEmpty && !ents.isEmpty && ents.all (fun x=>decide (x.born≥last)))=false:=by
  rcases hcl with h|h|⟨e,he,h⟩
  ·simp [h]
  ·simp [h]
  ·have:ents.all (fun x=>decide (x.born≥last))=false:=by
    rw [Bool.eq_false_iff]
    intro hh
    rw [Array.all_eq_true_iff_forall_mem] at hh
    have:=hh e he
    simp at this;omega
   simp [this]
 simp only [Instr.next,Sem.run_bind,h1,h2,Result.andThen_ok,h3,Bool.false_eq_true,if_false]
 generalize hL:Array.filter (fun e => !seen.contains e.born) ents=L
 generalize hold:L.filter (fun e=>decide (e.born < since))=old
 generalize hnew:L.filter (fun e=>decide (e.born≥since))=new
 generalize hC:(if old.isEmpty=true then #[none] else #[]) ++ (old ++ new).map some=C
 have hmem:∀e∈old ++ new,e∈ents∧seen.contains e.born=false:=by
  intro e he
  have:e∈L:=by
   rw [Array.mem_append] at he
   rcases he with he|he
   ·rw [←hold,Array.mem_filter] at he;exact he.1
   ·rw [←hnew,Array.mem_filter] at he;exact he.1
  rw [←hL,Array.mem_filter] at this
  exact ⟨this.1,by simpa using this.2⟩
 have hsz:0 < C.size:=by
  rw [←hC]
  by_cases ho:old.isEmpty=true
  ·simp [ho];omega
  ·simp only [ho,if_false,Bool.false_eq_true]
   have:0 < old.size:=by
    rcases Nat.eq_zero_or_pos old.size with h0|h0
    ·exact absurd (by simpa [Array.isEmpty] using h0) ho
    ·exact h0
   simp;omega
 have hch:∃(j:Nat) (w1:World),j < C.size∧(w1=w∨w1=w.drew)∧(choose (Question.mapNext C.size)).run P w = .ok j w1:=by
  by_cases hf:C.size≤1
  ·exact ⟨0,w,hsz, .inl rfl,by simp [choose,Sem.run,Question.forced,hf]⟩
  ·exact ⟨_,w.drew,Nat.mod_lt _ hsz, .inr rfl,by
    simp only [choose,Sem.run,Question.forced,decide_eq_true_eq,hf,if_false,Question.cut]
    rfl⟩
 obtain ⟨j,w1,hj,hw1,hrun⟩:=hch
 have hw1h:w1.heap[g]? = some (.mapIter (some gm) since seen last):=by rcases hw1 with rfl|rfl<;>exact hit
 simp only [hrun,Result.andThen_ok,Array.getElem?_eq_getElem hj]
 cases hc:C[j] with
 |none=>
  left
  refine ⟨fun e he hlt=>?_,w1,hw1,rfl⟩
  have hoe:old.isEmpty=true:=by
   cases ho:old.isEmpty with
   |true=>rfl
   |false=>
    exfalso
    have:(none:Option MapEntry)∈C:=by rw [←hc];exact Array.getElem_mem hj
    rw [←hC,ho] at this
    simp at this
  cases hs:seen.contains e.born with
  |true=>rfl
  |false=>
   exfalso
   have h5:e∈L:=by rw [←hL,Array.mem_filter];exact ⟨he,by rw [hs];rfl⟩
   have h6:e∈old:=by rw [←hold,Array.mem_filter];exact ⟨h5,by simpa using hlt⟩
   have h7:old = #[]:=by simpa [Array.isEmpty] using hoe
   rw [h7] at h6;simp at h6
 |some e=>
  right
  have hmC:some e∈C:=by rw [←hc];exact Array.getElem_mem hj
  have he:e∈old ++ new:=by
   rw [←hC] at hmC
   rw [Array.mem_append] at hmC
   rcases hmC with h|h
   ·exfalso
    split at h<;>simp at h
   ·rw [Array.mem_map] at h
    obtain ⟨x,hx,e1⟩:=h
    cases e1;exact hx
  obtain ⟨m1,m2⟩:=hmem e he
  refine ⟨e,m1,m2,w1,hw1,?_⟩
  have hset:(setObj g (.mapIter (some gm) since (seen.push e.born) clock)).run P w1 = .ok () (World.setO w1 g (.mapIter (some gm) since (seen.push e.born) clock)):=by
   have:(Go.setObj g (.mapIter (some gm) since (seen.push e.born) clock)).run P w1 = .ok () { w1 with heap:=w1.heap.setIfInBounds g (.mapIter (some gm) since (seen.push e.born) clock) }:=by simp [Go.setObj,Sem.run,hw1h]
   exact this
  simp only [Sem.run_bind,hset,Result.andThen_ok,Sem.run_pure]
def Y25 (σ:PS) (d it mid since last clock:Nat) (seen:List Nat) (e:Option (Nat×PV×PV)):PS:=match e with
 |some e=>((σ.setm it (.iter mid since (seen ++ [e.1]) clock)).put d (.tup [.val (.bool true),e.2.1.bare,e.2.2.bare]))
 |none=>σ.put d (.tup [.val (.bool false)])
theorem Y0w (hT:T=Kf P) {M:Nat} {id it mid since last clock d:Nat} {seen:List Nat} {es:List (Nat×PV×PV)} {x:Operand} {t:TypeId} {p:String} {af:Array Edge} {rest:List Oper} {Q:Exit→PS→Prop} (hx:pev σ x = .ptr it 0) (hi:σ.m it=some (.iter mid since seen last)) (hm:σ.m mid=some (.map es clock)) (hM:d < M)
  (hall2:(({ dst:=some d,op:=.next x false,type:=t,pos:=p,after:=af,guard:=none } :: rest).all (dstB M) && Nat.ble (1000 * id+rest.length+1) 1000000)=true)
  (hcl:seen = []∨es = []∨∃e∈es,e.1 < last)
  (hnone:(∀e∈es,e.1 < since→e.1∈seen)→X5 P T ({ dst:=some d,op:=.next x false,type:=t,pos:=p,after:=af,guard:=none } :: rest).toArray (1000 * id) (fun _ _=>true) (Xa 1 rest) (Q .normal) (Y25 σ d it mid since last clock seen none))
  (hsome:∀e∈es,e.1∉seen→X5 P T ({ dst:=some d,op:=.next x false,type:=t,pos:=p,after:=af,guard:=none } :: rest).toArray (1000 * id) (fun _ _=>true) (Xa 1 rest) (Q .normal) (Y25 σ d it mid since last clock seen (some e))) :
  PW P M (.region id ({ dst:=some d,op:=.next x false,type:=t,pos:=p,after:=af,guard:=none } :: rest).toArray false) Q σ:=by
 intro Φ0 W a w hr
 have hall2':=hall2
 simp only [Bool.and_eq_true] at hall2'
 obtain ⟨hall,hb0⟩:=hall2'
 have hbase:=Nat.le_of_ble_eq_true hb0
 refine wpIn_region ?_
 let ops:List Oper:={ dst:=some d,op:=.next x false,type:=t,pos:=p,after:=af,guard:=none } :: rest
 have hsnd:∀(σ:PS) a w,X5 P T ops.toArray (1000 * id) (fun _ _=>true) (Xa 1 rest) (Q .normal) σ→Rel Φ0 W M σ a w→wpOpsIn (FW Φ0.round) 0 P ops.toArray (Lift Φ0 W M Q) ((Xa 1 rest).map (·.1)) a w:=by
  intro σ a w h hr
  exact Xdg (Φ0:=Φ0) (W:=W) (M:=M) hT (ops:=ops.toArray) (by
   intro j o hj
   exact List.all_eq_true.1 hall o (Xc (by simpa using hj))) (by simp [ops];omega) (Q:=Q .normal) (Q':=Lift Φ0 W M Q) (fun σ a w hq hrel=>⟨_,Φ0,W,hq,Z4.refl _ _,hrel⟩) (Xa 1 rest) (by
   intro x hx
   obtain ⟨h1,h2⟩:=Yb 1 rest x hx
   have e1:x.1=(x.1 - 1)+1:=O_
   rw [e1]
   simpa [ops] using h2) σ a w h hr
 have hrange:List.range ops.toArray.size=0 :: ((Xa 1 rest).map (·.1)):=by
  rw [X15,List.range_eq_range',List.size_toArray]
  show List.range' 0 (rest.length+1)=_
  rw [List.range'_succ]
 show wpOpsIn (FW Φ0.round) 0 P ops.toArray (Lift Φ0 W M Q) (List.range ops.toArray.size) a w
 rw [hrange]
 simp only [wpOpsIn]
 have h0:ops.toArray[0]? = some { dst:=some d,op:=.next x false,type:=t,pos:=p,after:=af,guard:=none }:=by simp [ops]
 rw [h0]
 simp only
 obtain ⟨Φ,μ,ω,hg⟩:=hr
 have hw:Region.wanted ({ dst:=some d,op:=.next x false,type:=t,pos:=p,after:=af,guard:=none } : Oper) (yielded ops.toArray a.tmps)=true:=by simp [Region.wanted]
 rw [if_pos hw]
 refine Vl (fun c e=>by cases e) ?_
 have hxr:=hg.ev x
 rw [hx] at hxr
 obtain ⟨g,hgi,hxv⟩:=hxr.ptr_inv
 obtain ⟨g',k1,k2,k3,k4,gm,k5,k6⟩:=hg.map it _ hi
 rw [hgi] at k1;cases k1
 obtain ⟨gm',m1,m2,m3,m4,hst,ents,m5,m6,m7⟩:=hg.map mid _ hm
 rw [k5] at m1;cases m1
 have hentry:∀e∈ents,∃x∈es,x.1=e.born∧Rep Φ μ x.2.1 e.key∧Rep Φ μ x.2.2 e.val:=by
  intro e he
  obtain ⟨j,hj,rfl⟩:=Array.getElem_of_mem he
  have hjl:j < es.length:=by rw [←m6];exact hj
  obtain ⟨e',q1,q2,q3,q4,-⟩:=m7 j es[j].1 es[j].2.1 es[j].2.2 (E_ hjl)
  rw [Array.getElem?_eq_getElem hj] at q1
  cases q1
  exact ⟨es[j],S_,q2.symm,q3,q4⟩
 have hentry' : ∀x∈es,∃e∈ents,x.1=e.born:=by
  intro x hx
  obtain ⟨j,hj,rfl⟩:=List.getElem_of_mem hx
  obtain ⟨e',q1,q2,-⟩:=m7 j es[j].1 es[j].2.1 es[j].2.2 (E_ hj)
  exact ⟨e',Array.mem_of_getElem? q1,q2.symm⟩
 have hcl' : seen.toArray.isEmpty=true∨ents.isEmpty=true∨∃e∈ents,e.born < last:=by
  rcases hcl with h|h|⟨x,hx,h⟩
  ·left;simp [h]
  ·right;left;have:ents.size=0:=by rw [m6,h];rfl
   simpa [Array.isEmpty] using this
  ·right;right;obtain ⟨e,he,h1⟩:=hentry' x hx;exact ⟨e,he,O_⟩
 have hexec:∀v w',(Instr.next (.pointer (some ⟨g,0,none⟩)) false t).run P w = .ok v w'→(execOp a.eval { dst:=some d,op:=.next x false,type:=t,pos:=p,after:=af,guard:=none }).run P w = .ok (.value v) w':=by
  intro v w' hr
  simp only [execOp,hxv,Sem.run_bind,hr,Result.andThen_ok,Sem.run_pure]
 have hdr:∀w1,(w1=w∨w1=w.drew)→RelG Φ0 W M Φ μ ω σ a w1:=by
  rintro w1 (rfl|rfl)
  ·exact hg
  ·exact hg.drew
 unfold Oper.wp
 rcases Xw9 (P:=P) (w:=w) t k6 m5 hcl' with ⟨h1,w1,hw1,hrun⟩|⟨e,he,hse,w1,hw1,hrun⟩
 ·rw [hexec _ _ hrun]
  refine hsnd _ _ _ (hnone fun x hx hlt=>?_) ⟨Φ,μ,ω,((hdr w1 hw1).put hM (p:=.tup [.val (.bool false)]) ?_ rfl)⟩
  ·obtain ⟨e,he,e1⟩:=hentry' x hx
   have:=h1 e he O_
   rw [e1];simpa using this
  ·have:=(RepL.cons (Rep.val (Φ:=Φ) (μ:=μ) (.bool false) rfl) RepL.nil).tup
   simpa using this
 ·rw [hexec _ _ hrun]
  obtain ⟨x',hx',e1,e2,e3⟩:=hentry e he
  have hstep:=(hdr w1 hw1).setMap (X':=.iter mid since (seen ++ [e.born]) clock) hi hgi (.mapIter (some gm) since (seen.toArray.push e.born) clock) ⟨gm,k5,S_⟩
  have hfin:=hstep.put hM (p:=.tup [.val (.bool true),x'.2.1.bare,x'.2.2.bare]) (v:=.tuple #[.bool true,e.key,e.val]) (by
   have:=(RepL.cons (Rep.val (Φ:=Φ) (μ:=μ) (.bool true) rfl) (RepL.cons e2.bare (RepL.cons e3.bare RepL.nil))).tup
   simpa using this) rfl
  refine hsnd _ _ _ (hsome x' hx' (by rw [e1];simpa using hse)) ⟨Φ,μ,ω,?_⟩
  simp only [Y25,PS.setm,e1]
  exact hfin
end
section
open Go.RowKit
theorem PW.condTe {P:Program} {M:Nat} {Q:Exit→PS→Prop} {σ:PS} {c:Operand} {x y:Code} {b:Bool} (hc:pev σ c = .val (.bool b)) (hb:b=true) (h:PW P M x Q σ):PW P M (.cond c x y) Q σ:=PW.condT (by rw [hc,hb]) h
theorem PW.condFe {P:Program} {M:Nat} {Q:Exit→PS→Prop} {σ:PS} {c:Operand} {x y:Code} {b:Bool} (hc:pev σ c = .val (.bool b)) (hb:b=false) (h:PW P M y Q σ):PW P M (.cond c x y) Q σ:=PW.condF (by rw [hc,hb]) h
end
section
open Go.RowKit
variable {P:Program} {M:Nat} {Q:Exit→PS→Prop} {σ:PS}
def PWin (P:Program) (M:Nat) (c:Code) (Q:Exit→PS→Prop) (σ:PS):Prop:=
 ∀Φ0 W a w,Rel Φ0 W M σ a w→∀b k cs,b.roundOf=(FW Φ0.round).round→(FW Φ0.round).fn b.fn→(FW Φ0.round).room (cs.length+1+0)→∃e a' w',Lift Φ0 W M Q e a' w'∧ArrivesIn (Machine.fenced P (FW Φ0.round)) P (lone (b.atR a (.code c :: .inLoop c :: k)) cs w) b k cs e a' w'
theorem PWin.from {c:Code} (h:PWin P M c Q σ) {Φ0 Φ1:Ent} {W W1:World} (hl:Z4 Φ0 W Φ1 W1) {a:Act} {w:World} (hr:Rel Φ1 W1 M σ a w):∀b k cs,b.roundOf=(FW Φ0.round).round→(FW Φ0.round).fn b.fn→(FW Φ0.round).room (cs.length+1+0)→∃e a' w',Lift Φ0 W M Q e a' w'∧ArrivesIn (Machine.fenced P (FW Φ0.round)) P (lone (b.atR a (.code c :: .inLoop c :: k)) cs w) b k cs e a' w':=by
 have:=h Φ1 W1 a w hr
 rw [hl.round] at this
 intro b k cs h1 h2 h3
 obtain ⟨e,a',w',hq,harr⟩:=this b k cs h1 h2 h3
 exact ⟨e,a',w',hq.later hl,harr⟩
def Xp3 (P:Program) (M:Nat) (c:Code) (Q:Exit→PS→Prop):Exit→PS→Prop
 | .normal,σ=>PWin P M c Q σ
 |e,σ=>Q e σ
theorem PWin.round {c:Code} (h:PW P M c (Xp3 P M c Q) σ):PWin P M c Q σ:=by
 intro Φ0 W a w hr b k cs hro hb hroom
 obtain ⟨e,a₁,w₁,⟨σ₁,Φ1,W1,hq,hl,hrel⟩,harr⟩:=h Φ0 W a w hr b (.inLoop c :: k) cs hro hb hroom
 cases e with
 |normal=>
  obtain ⟨e₂,a₂,w₂,hq₂,harr₂⟩:=PWin.from hq hl hrel b k cs hro hb hroom
  exact ⟨e₂,a₂,w₂,hq₂, .of_steps (StepsIn.trans harr (.one (fenced_calm hb hroom rfl) stepR_inLoop)) harr₂⟩
 |exit id=>exact ⟨_,a₁,w₁,⟨σ₁,Φ1,W1,hq,hl,hrel⟩, .pass (x:=.inLoop c) rfl (fun _ _=>.inl S_) harr⟩
 |goto l=>exact ⟨_,a₁,w₁,⟨σ₁,Φ1,W1,hq,hl,hrel⟩, .pass (x:=.inLoop c) rfl (fun _ _=>.inl S_) harr⟩
 |ret=>exact ⟨_,a₁,w₁,⟨σ₁,Φ1,W1,hq,hl,hrel⟩, .pass (x:=.inLoop c) rfl (fun _ _=>.inl S_) harr⟩
 |panic ch=>exact ⟨_,a₁,w₁,⟨σ₁,Φ1,W1,hq,hl,hrel⟩, .pass (x:=.inLoop c) rfl (fun _ _=>.inl S_) harr⟩
 |outgrown=>exact ⟨_,a₁,w₁,⟨σ₁,Φ1,W1,hq,hl,hrel⟩, .pass (x:=.inLoop c) rfl (fun _ _=>.inl S_) harr⟩
theorem PW.unroll {c:Code} (h:PW P M c (Xp3 P M c Q) σ):PW P M (.loop c) Q σ:=by
 intro Φ0 W a w hr b k cs hro hb hroom
 obtain ⟨e,a',w',hq,harr⟩:=PWin.round h Φ0 W a w hr b k cs hro hb hroom
 exact ⟨e,a',w',hq, .of_steps (.one (fenced_calm hb hroom rfl) stepR_loop) harr⟩
theorem Xzg {c:Code} (h:PW P M c (Xp3 P M c Q) σ):Xp3 P M c Q .normal σ:=PWin.round h
theorem X9i {c:Code} {j:Nat} (h:Q (.exit j) σ):Xp3 P M c Q (.exit j) σ:=h
theorem Xd7 {c:Code} (h:Q .ret σ):Xp3 P M c Q .ret σ:=h
end
section
open Go.RowKit
variable {κ:Nat→Nat} {S:Nat→Prop} {σ σ' : PS}
theorem SubR.isb {i:Nat} {c:List PV} (h:SubR κ S σ (σ'.setb i c)):SubR κ S σ (σ'.setb i c):=h
theorem SubR.ism {i:Nat} {c:PMap} (h:SubR κ S σ (σ'.setm i c)):SubR κ S σ (σ'.setm i c):=h
theorem SubR.isp {i:Nat} {c:PV} (h:SubR κ S σ (σ'.put i c)):SubR κ S σ (σ'.put i c):=h
end
section
open Go.RowKit
def pu32 (z:Int):PV:=.val (.int .u32 z)
def pu64 (z:Int):PV:=.val (.int .u64 z)
theorem Xfu (z:Int):Low (pu32 z)↔True:=X4d _
theorem Xgk (z:Int):Low (pu64 z)↔True:=X4d _
theorem Yd {α β:Type} {f:α→β} {l:List α} {n:Nat} (h:l.length=n):(l.map f).length=n:=by rw [List.length_map,h]
theorem Yx {α:Type} {f:α→PV} (h:∀x,(f x).bare=f x) (l:List α):(l.map f).map PV.bare=l.map f:=by rw [List.map_map];exact List.map_congr_left fun x _=>h x
theorem X8x {α:Type} {f:α→PV} (h:∀x,(f x).one=true) (l:List α):(l.map f).all PV.one=true:=by rw [List.all_map,List.all_eq_true];exact fun x _=>h x
theorem Kx {α:Type} {f:α→PV} (h:∀x,Low (f x)) (l:List α):∀c∈l.map f,Low c:=by
 intro c hc
 obtain ⟨z,-,rfl⟩:=List.mem_map.1 hc
 exact h z
theorem X5m.lowE {κ:Nat→Nat} {S:Nat→Prop} {qs ps:List PV} (h:qs=ps) (hl:∀p∈ps,Low p):X5m κ S qs ps:=by subst h;exact X5m.low hl
end
section
open Go.RowKit
variable {P:Program} {T:Tab} {σ:PS} {o:Oper} {i base:Nat} {ops:Array Oper} {ok:Nat→Nat→Bool} {rest:List (Nat×Oper)} {K:PS→Prop}
def Y6u:IntKind→Bool
 | .i64=>false
 |_=>true
theorem X5.arU {d:Nat} {k:IntKind} {z:Int} (hk:Xv6 o.op=true) (hg:Xk ops σ o=some true) (hd:o.dst=some d) (hE:feff (presE T (Yr ops o.dst) (base+i) (σ.only (ok i)) o.op)=some (.val (.int k z))) (hn:Y6u k=true) (hb:σ.freeB (base+i)=true) (kn:X5 P T ops base ok rest K (σ.put d (.val (.int k z)))):X5 P T ops base ok ((i,o) :: rest) K σ:=X5.val hg hd hE hb kn
theorem X5.idxE1 {d n:Nat} {e:TypeId} {ag:Bool} {z:Int} {cs:List PV} {kk:IntKind} {x ix:Operand} {t:TypeId} {ti:TyI} (hg:Xk ops σ o=some true) (hd:o.dst=some d) (hop:o.op = .indexAddr t x ix) (hx:pev σ x = .ep cs 0) (hi:pev σ ix = .val (.int kk z)) (ht:T.at t=some ti) (hk:ti.kind = .arr n e 1 ag) (hb:σ.freeB (base+i)=true) (h0:0≤z∧z < n)
  (kn:X5 P T ops base ok rest K (σ.put d (.ep cs z.toNat))):X5 P T ops base ok ((i,o) :: rest) K σ:=by
 refine X2j hg hd ?_ hb kn
 have h1:(0:Int)≤z∧z < (n:Int):=h0
 simp [hop,presE,V5,pval,Xv,hx,hi,ht,hk,X2x,h1]
theorem X5.idxP1 {d n m:Nat} {e:TypeId} {ag:Bool} {z:Int} {kk:IntKind} {x ix:Operand} {t:TypeId} {ti:TyI} (hg:Xk ops σ o=some true) (hd:o.dst=some d) (hop:o.op = .indexAddr t x ix) (hx:pev σ x = .ptr m 0) (hi:pev σ ix = .val (.int kk z)) (ht:T.at t=some ti) (hk:ti.kind = .arr n e 1 ag) (hb:σ.freeB (base+i)=true) (h0:0≤z∧z < n)
  (kn:X5 P T ops base ok rest K (σ.put d (.ptr m z.toNat))):X5 P T ops base ok ((i,o) :: rest) K σ:=by
 refine X2j hg hd ?_ hb kn
 have h1:(0:Int)≤z∧z < (n:Int):=h0
 simp [hop,presE,V5,pval,Xv,hx,hi,ht,hk,X2x,h1]
theorem X5.idxV {α:Type} [Inhabited α] {d n:Nat} {e:TypeId} {z:Int} {f:α→PV} {l:List α} {q:PV} {kk:IntKind} {x ix:Operand} {t:TypeId} {ti:TyI} (hg:Xk ops σ o=some true) (hd:o.dst=some d) (hop:o.op = .index t x ix) (hx:pev σ x = .agg (l.map f)) (hi:pev σ ix = .val (.int kk z)) (ht:T.at t=some ti) (hk:ti.kind = .arr n e 1 false) (hb:σ.freeB (base+i)=true) (h0:0≤z∧z < n∧z < l.length) (hq:fval (f (l.getD z.toNat default)).bare=some q)
  (kn:X5 P T ops base ok rest K (σ.put d q)):X5 P T ops base ok ((i,o) :: rest) K σ:=by
 refine X5.valEq hg hd (p:=(f (l.getD z.toNat default)).bare) ?_ (Zk hq) hb kn
 have h1:(0:Int)≤z∧z < (n:Int):=⟨h0.1,h0.2.1⟩
 have h2:(l.map f)[z.toNat]? = some (f (l.getD z.toNat default)):=Xla (X0e default O_)
 simp [hop,presE,V5,pval,Xv,hx,hi,ht,hk,Xll,h1,X6f,h2]
theorem X5.ldG {d m:Nat} {cs:List PV} {x:Operand} {t:TypeId} {kd:TD} {zr:List PV} {es:List SK} (hg:Xk ops σ o=some true) (hd:o.dst=some d) (hop:o.op = .load t x) (hx:pev σ x = .ep cs 0) (ht:T.at t=some ⟨m,true,kd,zr,es⟩) (hb:σ.freeB (base+i)=true) (hl:cs.length=m) (hr:cs.map PV.bare=cs)
  (kn:X5 P T ops base ok rest K (σ.put d (.agg cs))):X5 P T ops base ok ((i,o) :: rest) K σ:=by
 refine X5.ldA hg hd hop hx ht hb O_ ?_ kn
 rw [List.drop_zero,H_ O_];exact hr
theorem X5.ldMB {α:Type} [Inhabited α] {d id off:Nat} {f:α→PV} {l:List α} {q:PV} {x:Operand} {t:TypeId} {ti:TyI} (hg:Xk ops σ o=some true) (hd:o.dst=some d) (hop:o.op = .load t x) (hx:pev σ x = .ptr id off) (ht:T.at t=some ti) (ha:ti.agg=false) (hb:σ.freeB (base+i)=true) (hbs:(σ.only (ok i)).b id=some (l.map f)) (hl:off < l.length) (hq:fval (f (l.getD off default))=some q) (hn:(f (l.getD off default)).ownB=false)
  (kn:X5 P T ops base ok rest K (σ.put d q)):X5 P T ops base ok ((i,o) :: rest) K σ:=
 X5.ldB hg hd hop hx ht ha hb hbs (Xla (X0e default hl)) hn (by rw [Zk hq];exact kn)
theorem Y1y {α β:Type} (f:α→β) (l:List α) (j:Nat) (x:α):(l.map f).set j (f x)=(l.set j x).map f:=by
 rw [List.map_set]
theorem Xe7 {bs:List PV} {off:Nat} {c:PV} (h:off < bs.length):Y5 bs off [c]=bs.set off c:=by
 unfold Y5
 rw [List.set_eq_take_append_cons_drop,if_pos h];simp
theorem X5.stMB {α:Type} {id off:Nat} {f:α→PV} {l:List α} {v:α} {x y:Operand} {t:TypeId} {ti:TyI} (hg:Xk ops σ o=some true) (hd:o.dst=none) (hop:o.op = .store t x y) (hx:pev σ x = .ptr id off) (hn:(Kj σ y).ownB=false) (ht:T.at t=some ti) (hb:σ.freeB (base+i)=true) (hbs:(σ.only (ok i)).b id=some (l.map f)) (hp:X01 (pev σ y)=some [f v]) (hs:ti.size=1) (hl:off < l.length)
  (kn:X5 P T ops base ok rest K (σ.setb id ((l.set off v).map f))):X5 P T ops base ok ((i,o) :: rest) K σ:=by
 refine X5.stB hg hd hop hx hn hp ht hb hbs ⟨by rw [hs];rfl,by simp;omega⟩ ?_ kn
 rw [Xe7 (by simpa using hl),Y1y]
theorem X5.slcP {d id o' n k h l:Nat} {e:TypeId} {ag:Bool} {x:Operand} {lo hi:Option Operand} {t:TypeId} {ti:TyI} (hg:Xk ops σ o=some true) (hd:o.dst=some d) (hop:o.op = .slice t x lo hi none) (hx:pev σ x = .ptr id o') (ht:T.at t=some ti) (hk:ti.kind = .arr n e k ag) (hb:σ.freeB (base+i)=true) (hh:Yf n n (hi.map (pev σ))=some h) (hlo:Yf 0 h (lo.map (pev σ))=some l) (hn:n≤1000000000)
  (kn:X5 P T ops base ok rest K (σ.put d (.msl id (o' + l * k) (h - l) k))):X5 P T ops base ok ((i,o) :: rest) K σ:=by
 refine X2j hg hd ?_ hb kn
 have e1:∀x:Operand,pev (σ.only (ok i)) x=pev σ x:=fun x=>Xv ..
 have e2:∀x:Option Operand,x.map (pev (σ.only (ok i)))=x.map (pev σ):=fun x=>by cases x<;>simp [e1]
 simp [hop,presE,V5,pval,Xv,e2,hx,ht,hk,Xdl,hh,hlo,hn]
end
section
open Go.RowKit
def immA (w:World):Imm:=fun b o=>w.cell? ⟨b,o,none⟩
inductive Xi9 (given:List (Nat×List PV)):PV→PV→Prop
 |same (p:PV):Xi9 given p p
 |msl (id o n k:Nat) (bs:List PV) (h:(id,bs)∈given) (hl:o+n * k≤bs.length):Xi9 given (.msl id o n k) (.sl n k ((bs.drop o).take (n * k)) none)
inductive X8y (given:List (Nat×List PV)):List PV→List PV→Prop
 |nil:X8y given [] []
 |cons {p q:PV} {ps qs:List PV} (h:Xi9 given p q) (hs:X8y given ps qs):X8y given (p :: ps) (q :: qs)
theorem Xi9.rep {given:List (Nat×List PV)} {p q:PV} (h:Xi9 given p q) {B:Nat→Prop} {Φ:Imm} {μ:Nat→Option Nat} {ω:Nat→Option Who} {w:World} {v:Value} (himm:∀b o u,Φ b o=some u→w.cell? ⟨b,o,none⟩=some u) (hgb:∀x∈given,V2 B Φ μ ω w x.1 x.2) (hr:Rep Φ μ p v):Rep (immA w) μ q v:=by
 cases h with
 |same=>exact hr.mono himm (fun _ _ e=>e)
 |msl id o n k bs h hl=>
  obtain ⟨a,cap,rfl,h1,h2,h3⟩:=hr.msl_inv
  obtain ⟨g,cur,T,k1,k2,-,-,-,k6,k7⟩:=hgb _ h
  by_cases hn:n=0
  ·subst hn
   rw [Nat.zero_mul,List.take_zero]
   exact .sl0 k none a cap h2
  ·obtain ⟨g',e1,rfl⟩:=h3 O_
   simp only at k1
   rw [k1] at e1
   cases e1
   have hlen:((bs.drop o).take (n * k)).length=n * k:=by rw [T_,L_];omega
   have hget:∀j c,((bs.drop o).take (n * k))[j]? = some c→bs[o+j]? = some c:=by
    intro j c hc
    rw [List.getElem?_take] at hc
    split at hc
    ·rwa [List.getElem?_drop] at hc
    ·cases hc
   have hcell:∀j,immA w g (o+j)=cur[o+j]?:=fun j=>by simp only [immA,World.cell?,k2];simp
   refine .sl n k _ none g o cap (fun j=>cur.getD (o+j) undef) hlen h1 h2 (fun j hj=>?_) (fun j c hc=>?_)
   ·rw [hcell]
    obtain ⟨c,hc⟩:∃c,((bs.drop o).take (n * k))[j]? = some c:=⟨_,E_ hj⟩
    obtain ⟨u,r1,-⟩:=k7 _ _ (hget j c hc)
    rw [r1,Array.getD_eq_getD_getElem?,r1];rfl
   ·obtain ⟨u,r1,-,r3,-⟩:=k7 _ _ (hget j c hc)
    rw [Array.getD_eq_getD_getElem?,r1]
    exact r3.mono himm (fun _ _ e=>e)
theorem X8y.rep {given:List (Nat×List PV)} {ps qs:List PV} (h:X8y given ps qs) {B:Nat→Prop} {Φ:Imm} {μ:Nat→Option Nat} {ω:Nat→Option Who} {w:World} (himm:∀b o u,Φ b o=some u→w.cell? ⟨b,o,none⟩=some u) (hgb:∀x∈given,V2 B Φ μ ω w x.1 x.2):∀{vs:List Value},RepL Φ μ ps vs→RepL (immA w) μ qs vs:=by
 induction h with
 |nil=>exact fun hr=>⟨hr.1,fun j c u hc=>by simp at hc⟩
 |cons h hs ih=>
  intro vs hr
  cases vs with
  |nil=>exact absurd hr.1 S_
  |cons v vs=>
   have h1:=h.rep himm hgb (hr.2 0 _ _ rfl rfl)
   have h2:=ih (vs:=vs) ⟨by simpa using hr.1,fun j c u hc hu=>hr.2 (j+1) c u (by simpa using hc) (by simpa using hu)⟩
   exact .cons h1 h2
open Classical in
theorem Xe.ofP {P:Program} {f:FuncId} {args args' : List PV} {r:PV} {given:List (Nat×List PV)} {gm:List (Nat×PMap)} (h:Xs P f args (· = r)) (hA:X8y given args' args) (hlow:∀x∈given,∀c∈x.2,LowI (fun i=>i∈X0 given gm) c) (hlowM:∀x∈gm,LowM (fun i=>i∈X0 given gm) x.2) (hr:Flat r) (hro:r.ownB=false):Xe P f args' given gm r given gm:=by
 refine ⟨h.1,fun Φ μ ω w vs himm hgl hrep hgb hgmm hlt=>?_⟩
 refine (h.2 (immA w) μ w vs (fun _ _ _ e=>e) (fun x hx j z e=>himm _ _ _ (hgl x hx j z e)) (hA.rep himm hgb hrep)).mono ?_
 rintro e w' ⟨r',v,Φ',rfl,rfl,hrep',-,-,hb,-⟩
 let μ' : Nat→Option Nat:=fun i=>if i∈X0 given gm then μ i else none
 let ω' : Nat→Option Who:=fun g=>if Giv ω (X0 given gm) g then ω g else none
 have hμ:∀i,i∈X0 given gm→∀g,μ i=some g→μ' i=some g:=fun i hi g e=>by show (if _ then _ else _)=_;rw [if_pos hi];exact e
 have hω:∀i,i∈X0 given gm→∀q,OfId i q→∀g,ω g=some q→ω' g=some q∧X4a ω w (X0 given gm) g:=by
  intro i hi q hq g e
  have hgv:Giv ω (X0 given gm) g:=⟨i,hi,q,hq,e⟩
  refine ⟨?_, .inr hgv⟩
  show (if _ then _ else _)=_
  rw [if_pos hgv];exact e
 have hω' : ∀g q,ω' g=some q→ω g=some q∧Giv ω (X0 given gm) g:=by
  intro g q e
  have e' : (if Giv ω (X0 given gm) g then ω g else none)=some q:=e
  split at e'
  ·rename_i hg;exact ⟨e',hg⟩
  ·cases e'
 have hheap:∀g q,ω' g=some q→w'.heap[g]? = w.heap[g]?:=fun g q e=>hb.block g (hlt g q (hω' g q e).1)
 refine ⟨v,Φ,μ',ω',rfl,hrep'.flat hr,fun b o u e=>?_,fun _ _ _ e=>e,fun _ _ _ _=>rfl,Kept.of hb (fun k hk=>hk.1),fun id hid=>?_,fun id g e=>?_,fun x hx=>?_,fun x hx=>?_,fun g p e=>?_,fun n k cs E e=>?_⟩
 ·have h1:=himm b o u e
  have hlt':=World.block_lt_of_cell? _ _ h1
  rw [hb.cell hlt'];exact h1
 ·show (if _ then _ else _)=_;rw [if_pos hid]
 ·have e' : (if id∈X0 given gm then μ id else none)=some g:=e
  split at e'
  ·assumption
  ·cases e'
 ·have hi:x.1∈X0 given gm:=List.mem_append.2 (.inl (List.mem_map.2 ⟨x,hx,rfl⟩))
  refine ((hgb x hx).lowI (S:=fun i=>i∈X0 given gm) (B':=X4a ω w (X0 given gm)) (μ':=μ') (ω':=ω') hi (hlow x hx) hμ (fun q hq g e=>hω x.1 hi q hq g e)).step (fun _ _ _ e=>e) (fun _ _ e=>e) (fun q hq g e=>⟨hheap g q e,fun _=>rfl,e⟩)
 ·have hi:x.1∈X0 given gm:=List.mem_append.2 (.inr (List.mem_map.2 ⟨x,hx,rfl⟩))
  refine ((hgmm x hx).lowI (S:=fun i=>i∈X0 given gm) (B':=X4a ω w (X0 given gm)) (μ':=μ') (ω':=ω') hi (hlowM x hx) hμ (fun q hq g e=>hω x.1 hi q hq g e)).step (fun _ _ _ e=>e) (fun _ _ e=>e) (fun q hq g e=>⟨hheap g q e,fun _=>rfl,e⟩)
 ·obtain ⟨e1,e2⟩:=hω' g p e
  exact ⟨Nat.lt_of_lt_of_le (hlt g p e1) hb.size, .inr e2⟩
 ·rw [e] at hro;simp [PV.ownB] at hro
end
section
open Go.RowKit
variable {P:Program} {T:Tab} {σ:PS} {o:Oper} {i base:Nat} {ops:Array Oper} {ok:Nat→Nat→Bool} {rest:List (Nat×Oper)} {K:PS→Prop}
theorem X5.valE {d:Nat} {p q:PV} (hg:Xk ops σ o=some true) (hd:o.dst=some d) (hE:feff (presE T (Yr ops o.dst) (base+i) (σ.only (ok i)) o.op)=some p) (e:p=q) (hb:σ.freeB (base+i)=true) (k:X5 P T ops base ok rest K (σ.put d q)):X5 P T ops base ok ((i,o) :: rest) K σ:=
 X5.val hg hd (by rw [hE,e]) hb k
theorem X5.cvI {d:Nat} {z:Int} {x:Operand} {ts td:TypeId} (hop:o.op = .convert ts td x) (hg:Xk ops σ o=some true) (hd:o.dst=some d) (hE:feff (presE T (Yr ops o.dst) (base+i) (σ.only (ok i)) o.op)=some (.val (.int .i64 (IntKind.i64.wrap z)))) (h1 : -9223372036854775808≤z) (h2:z≤9223372036854775807) (hb:σ.freeB (base+i)=true) (k:X5 P T ops base ok rest K (σ.put d (.val (.int .i64 z)))):X5 P T ops base ok ((i,o) :: rest) K σ:=
 X5.valE hg hd hE (by rw [Zp h1 h2]) hb k
theorem Y4q {a b:Nat} : ((a:Int)).tmod (b:Int)=((a % b:Nat):Int):=by rw [Int.tmod_eq_emod_of_nonneg O_];simp
theorem X5.remU {d a b:Nat} {k:IntKind} {x y:Int} {X Y:Operand} {t yt:TypeId} (hg:Xk ops σ o=some true) (hd:o.dst=some d) (hop:o.op = .binOp .rem t X Y yt) (hx:pev σ X = .val (.int k x)) (hy:pev σ Y = .val (.int k y)) (hb:σ.freeB (base+i)=true) (ha:x=a) (hbb:y=b) (h0:b≠0) (kn:X5 P T ops base ok rest K (σ.put d (.val (.int k ((a % b:Nat):Int))))):X5 P T ops base ok ((i,o) :: rest) K σ:=by
 subst ha;subst hbb
 refine X5.valEq hg hd (p:=.val (.int k ((a:Int).tmod b))) ?_ (by rw [Y4q]) hb kn
 simp only [hop,presE,V5,pval,Xv,hx,hy,pbin]
 rw [if_pos ⟨trivial,O_⟩];rfl
theorem X5.slcS {d k:Nat} {z:Int} {kl:IntKind} {s q:ByteArray} {x lo:Operand} {t:TypeId} {ti:TyI} (hg:Xk ops σ o=some true) (hd:o.dst=some d) (hop:o.op = .slice t x (some lo) none none) (hx:pev σ x = .val (.string s)) (hlo:pev σ lo = .val (.int kl z)) (ht:T.at t=some ti) (hk:ti.kind = .str) (hb:σ.freeB (base+i)=true) (hz:z=k) (hl:k≤s.size) (hq:s.extract k s.size=q)
  (kn:X5 P T ops base ok rest K (σ.put d (.val (.string q)))):X5 P T ops base ok ((i,o) :: rest) K σ:=by
 subst hz
 refine X2j hg hd ?_ hb kn
 have h1:Yf 0 s.size (some (.val (.int kl (k:Int))))=some k:=by simp [Yf,hl]
 have h2:Yf s.size s.size none=some s.size:=rfl
 simp [hop,presE,V5,pval,Xv,hx,hlo,ht,hk,Xdl,h1,h2,hq]
end
section
open Go.RowKit
variable {Φ0:Ent} {W:World} {M:Nat} {Φ:Imm} {μ:Nat→Option Nat} {ω:Nat→Option Who} {σ:PS} {a:Act} {w:World} {P:Program} {T:Tab}
theorem RelG.boxTake (h:RelG Φ0 W M Φ μ ω σ a w) {id:Nat} {bs cs r:List PV} (hb:σ.b id=some bs) (hc:bs=cs ++ r):RelG Φ0 W M Φ μ ω { σ with b:=upd σ.b id (some cs) } a w:=by
 subst hc
 refine { h with box:=fun i bs' e=>?_,gone:=fun i e em=>?_,kmu:=fun i g e hi=>?_ }
 ·by_cases hi:i=id
  ·subst hi
   simp only [X8,if_true] at e
   cases e
   obtain ⟨g,cur,T,h1,h2,h3,h4,h5,h6,h7⟩:=h.box i _ hb
   refine ⟨g,cur,T,h1,h2,h3,h4,h5,by simp at h6;omega,fun j c hc=>h7 j c ?_⟩
   rw [List.getElem?_append_left (List.getElem?_eq_some_iff.1 hc).1];exact hc
  ·simp only [X8,if_neg hi] at e;exact h.box i bs' e
 ·by_cases hi:i=id
  ·subst hi;simp only [X8,if_true] at e;cases e
  ·simp only [X8,if_neg hi] at e;exact h.gone i e em
 ·by_cases hi' : i=id
  ·subst hi'; exact h.kmu i g e (.inl (by rw [hb];simp))
  ·simp only [X8,if_neg hi'] at hi;exact h.kmu i g e hi
theorem RelG.appendBox (h:RelG Φ0 W M Φ μ ω σ a w) {s d id:Nat} (hlow:id < 1000000) (hid:σ.b id=none) (hmid:σ.m id=none) (hd:d < M) {m k cap g:Nat} {ds:List PV} {e:TypeId} {cur:Array Value} {news:List Value}
  (hg:w.heap[g]? = some (.cells cur e (0,0))) (hroom:m≤cap) (hcur:cur.size=cap * k) (hω:ω g=some (.tmp s)) (hfree:∀j,Φ g j=none) (hB:Mine Φ0 W g) (hcap:cap≤maxLen)
  (hds:ds.length=m * k) (hn:RepL Φ μ ds news) (hone:∀u∈news,u.oneCell' = true) (hno:∀c∈ds,c.ownB=false) :
  Rel Φ0 W M { t:=upd (upd σ.t s (σ.t s).bare) d (.msl id 0 m k),b:=upd σ.b id (some ds),m:=σ.m } (a.put (some d) (.slice (some ⟨g,0,none⟩) m cap)) (w.setRow g (news ++ cur.toList.drop news.length).toArray):=by
 have hd' : d < a.tmps.size:=by rw [h.size];exact hd
 have hlt:g < w.heap.size:=(Array.getElem?_eq_some_iff.1 hg).1
 have hmk:m * k≤cap * k:=Nat.mul_le_mul_right _ hroom
 have hnl:=hn.1
 have hμ:∀i g',μ i=some g'→upd μ id (some g) i=some g':=by
  intro i g' e'
  simp only [X8]
  rw [if_neg (by rintro rfl;rw [h.gone _ hid hmid] at e'; cases e')];exact e'
 have hω' : ∀g' p,ω g' = some p→p≠.tmp s→upd ω g (some (.box id)) g' = some p:=by
  intro g' p eg hp
  simp only [X8]
  rw [if_neg (by rintro rfl;rw [hω] at eg;cases eg;exact hp rfl)]
  exact eg
 have hstep:∀q n' k' E v,q≠.tmp s→Ki (Mine Φ0 W) Φ ω w q n' k' E v→Ki (Mine Φ0 W) Φ (upd ω g (some (.box id))) (w.setRow g (news ++ cur.toList.drop news.length).toArray) q n' k' E v:=by
  intro q n' k' E v hq hh
  refine hh.step (fun g' eg=>?_)
  have hne:g'≠g:=by rintro rfl;rw [hω] at eg;cases eg;exact hq rfl
  exact ⟨setRow_other w g g' _ hne,fun j=>rfl,hω' g' q eg hq⟩
 refine ⟨Φ,upd μ id (some g),upd ω g (some (.box id)),?_,h.defers,by simp [Act.put,h.size],?_,h.old,fun t=>?_,fun t n' k' cs' E' et=>?_,fun i bs eb=>?_,?_,?_,h.gmu,?_,h.ext,fun i X e' => (h.map i X e').step (fun _ _ _ e=>e) hμ (fun q hq g' eg=>?_),fun g' p e' => ?_⟩
 ·exact h.below.trans ⟨rfl,rfl,rfl,S_,fun j hj=>setRow_other w g j _ (hB.ne hj)⟩
 ·intro b o u eu
  have hb:b≠g:=by rintro rfl;rw [hfree] at eu;cases eu
  have:=h.imm b o u eu
  simp only [World.cell?] at this ⊢
  rw [setRow_other w g b _ hb];exact this
 ·rw [K5 _ _ _ _ hd']
  simp only [X8]
  by_cases ht:t=d
  ·simp only [if_pos ht]
   exact .msl id 0 m k _ cap (fun _=>⟨g,by simp [X8],rfl⟩) hroom hcap
  ·simp only [if_neg ht]
   by_cases hts:t=s
   ·subst hts;simp only [if_true];exact ((h.tmps t).mono (fun _ _ _ e=>e) hμ).bare
   ·simp only [if_neg hts];exact (h.tmps t).mono (fun _ _ _ e=>e) hμ
 ·rw [K5 _ _ _ _ hd']
  simp only [X8] at et
  by_cases ht:t=d
  ·simp only [if_pos ht] at et;cases et
  ·simp only [if_neg ht] at et ⊢
   by_cases hts:t=s
   ·simp only [if_pos hts] at et
    have:=PV.bare_own (σ.t s);rw [et] at this;simp [PV.ownB] at this
   ·simp only [if_neg hts] at et
    exact hstep _ _ _ _ _ (by simp [hts]) (h.own t n' k' cs' E' et)
 ·by_cases hi:i=id
  ·subst hi
   simp only [X8,if_true] at eb
   cases eb
   refine ⟨g,_,e,by simp [X8],setRow_heap w g cur _ e _ hg,hB,by simp [X8],hfree,by simp;omega,fun j c hc=>?_⟩
   obtain ⟨u,hu,hru⟩:=hn.get hc
   refine ⟨u,?_,hone u (Xc hu),hru.mono (fun _ _ _ e=>e) hμ,fun n k cs E e' => ?_⟩
   ·rw [List.getElem?_toArray,List.getElem?_append_left (List.getElem?_eq_some_iff.1 hu).1];exact hu
   ·have:=hno c (Xc hc)
    rw [e'] at this;simp [PV.ownB] at this
  ·simp only [X8,if_neg hi] at eb
   obtain ⟨g2,cur',Ty,h1,h2',h3,h4,h5,h6,h7⟩:=h.box i bs eb
   have hne:g2≠g:=by rintro rfl;rw [hω] at h4;cases h4
   refine ⟨g2,cur',Ty,hμ _ _ h1,by rw [setRow_other w g g2 _ hne];exact h2',h3,hω' g2 _ h4 S_,h5,h6,fun j c hc=>?_⟩
   obtain ⟨u,r1,r2,r3,r4⟩:=h7 j c hc
   exact ⟨u,r1,r2,r3.mono (fun _ _ _ e=>e) hμ,fun n k cs E e=>hstep _ _ _ _ _ S_ (r4 n k cs E e)⟩
 ·intro i e' em
  by_cases hi:i=id
  ·subst hi;simp [X8] at e'
  ·simp only [X8,if_neg hi] at e' ⊢; exact h.gone i e' em
 ·intro g' p eg
  simp only [X8] at eg
  split at eg
  ·subst g'; simpa using hlt
  ·simpa using h.lt g' p eg
 ·intro i g' e' hi
  have hne:i≠id:=by have:=h.gmu i g' e'; omega
  simp only [X8,if_neg hne] at hi ⊢
  exact h.kmu i g' e' hi
 ·have hne:g'≠g:=by rintro rfl;rw [hω] at eg;cases eg;rcases hq with hq|⟨j,hq⟩<;>cases hq
  exact ⟨setRow_other w g g' _ hne,fun j=>rfl,hω' g' q eg (by rintro rfl;rcases hq with hq|⟨j,hq⟩<;>cases hq)⟩
 ·simp only [X8] at e'
  split at e'
  ·subst g'; exact hB
  ·exact h.mine g' p e'
theorem Rel.freshBox (h:RelG Φ0 W M Φ μ ω σ a w) {s d id:Nat} (hlow:id < 1000000) (hid:σ.b id=none) (hmid:σ.m id=none) (hd:d < M) {m k cap:Nat} {ds:List PV} {news:List Value} {rest:Array Value} (T:TypeId) (hroom:m≤cap) (hcap:cap≤maxLen) (hn:RepL Φ μ ds news) (hone:∀u∈news,u.oneCell' = true) (hone2:∀u∈rest.toList,u.oneCell' = true) (hno:∀c∈ds,c.ownB=false) :
  Rel Φ0 W M { t:=upd (upd σ.t s (σ.t s).bare) d (.msl id 0 m k),b:=upd σ.b id (some ds),m:=σ.m } (a.put (some d) (.slice (some ⟨w.heap.size,0,none⟩) m cap)) (w.drew.alloc (.cells (news.toArray ++ rest) T)):=by
 have h1:=h.drew.newBox hlow hid hmid (bs:=ds ++ List.replicate rest.size .undef) (us:=news ++ rest.toList) ⟨by simp [hn.1],fun j c u hc hu=>by
  by_cases hj:j < ds.length
  ·rw [List.getElem?_append_left hj] at hc
   rw [List.getElem?_append_left (by rw [hn.1];exact hj)] at hu
   exact hn.2 j c u hc hu
  ·rw [List.getElem?_append_right O_] at hc
   rw [(List.mem_replicate.1 (List.mem_of_getElem? hc)).2]
   exact .undef _⟩ (fun u hu=>by
    rcases List.mem_append.1 hu with hu|hu
    ·exact hone u hu
    ·exact hone2 u hu) (fun c hc=>by
    rcases List.mem_append.1 hc with hc|hc
    ·exact hno c hc
    ·rw [(List.mem_replicate.1 hc).2];rfl) T
 have h2:=h1.boxTake (id:=id) (cs:=ds) (bs:=ds ++ List.replicate rest.size .undef) (r:=List.replicate rest.size .undef) (by simp [X8]) rfl
 have h3:=h2.strip s
 have h4:=h3.put hd (p:=.msl id 0 m k) (v:=.slice (some ⟨w.heap.size,0,none⟩) m cap) (.msl id 0 m k _ cap (fun _=>⟨w.heap.size,by simp [X8],rfl⟩) hroom hcap) rfl
 have e:(news ++ rest.toList).toArray=news.toArray ++ rest:=S_
 have e2:upd (upd σ.b id (some (ds ++ List.replicate rest.size .undef))) id (some ds)=upd σ.b id (some ds):=by
  funext j;simp only [X8];by_cases hj:j=id<;>simp [hj]
 rw [e] at h4
 have:({ t:=upd (upd σ.t s (σ.t s).bare) d (.msl id 0 m k),b:=upd σ.b id (some ds),m:=σ.m } : PS)=PS.put { σ with t:=upd σ.t s (σ.t s).bare,b:=upd (upd σ.b id (some (ds ++ List.replicate rest.size .undef))) id (some ds) } d (.msl id 0 m k):=by
  rw [e2];rfl
 rw [this]
 exact ⟨_,_,_,h4⟩
theorem Xvr (hT:T=Kf P) (h:RelG Φ0 W M Φ μ ω σ a w) (o:Oper) {d s id:Nat} (hlow:id < 1000000) (hid:σ.b id=none) (hmid:σ.m id=none) (hd:o.dst=some d) (hM:d < M) {x:Operand} {t:TypeId} (hop:o.op = .call { callee:=.builtin .append,args := #[.tmp s,x],argTypes := #[t,t] })
  {ti:TyI} (ht:T.at t=some ti) {m e k by_:Nat} {ds zr:List PV} {own:Option TypeId} (hk:ti.kind = .slice e k by_ zr) (hs:σ.t s = .nilsl∨σ.t s = .sl 0 k [] (some e)) (he:e < 1000000) (hx:pev σ x = .sl m k ds own) (c1:m * by_≤140737488355328) (c2:m≤140737488355328) (h0:0 < m) (c3:ds.all PV.one=true) (hno:∀c∈ds,c.ownB=false) :
  Does P Φ0 W M a w o { t:=upd (upd σ.t s (σ.t s).bare) d (.msl id 0 m k),b:=upd σ.b id (some ds),m:=σ.m }:=by
 have ht' : tyI P t=some ti:=by rw [hT] at ht;exact Y9 rfl ht
 obtain ⟨hu,i,z,e1,e2,e3,e4,e5,e6,e7,-⟩:=Ys ht' hk
 have hrun:∀v' w',(Builtin.append_ #[t,t] o.type #[a.eval (.tmp s),a.eval x]).run P w = .ok v' w'→(execOp a.eval o).run P w = .ok (.value v') w':=by
  intro v' w' hr
  simp only [execOp,hop,resolve,invoke,builtin,Sem.run_bind,Sem.run_pure,Result.andThen_ok,List.map_toArray,List.map_cons,List.map_nil,hr]
 have hml:m≤maxLen:=by unfold maxLen;omega
 have hxx:∃ad cx news,a.eval x = .slice ad m cx∧(0 < m→∃adr,ad=some adr∧∀j u,news[j]? = some u→w.cell? (adr.add j)=some u)∧RepL Φ μ ds news∧(∀u∈news,u.oneCell' = true)∧ds.length=m * k:=by
  have hxr:=h.ev x
  rw [hx] at hxr
  obtain ⟨ad,b,off,cap,us,hv,q1,q2,q3,q4,q5,q6⟩:=hxr.sl_inv
  have hrl:=X0v ds us q6
  refine ⟨ad,cap,_,hv,fun hpos=>⟨_,q4 hpos,?_⟩,hrl,Xb7 hrl c3,q3⟩
  intro j u hj
  rw [Addr.add_lit]
  have hjl:j < ds.length:=by have:=(List.getElem?_eq_some_iff.1 hj).1;simpa using this
  simp [hjl] at hj
  subst hj
  exact h.imm _ _ _ (q5 j hjl)
 obtain ⟨ad,cx,news,hxv,hxa,hxr,hxo,hdl⟩:=hxx
 have hnl:news.length=m * k:=by rw [hxr.1,hdl]
 obtain ⟨adr,rfl,hcells⟩:=hxa h0
 have hz:∀q,∀u∈(Builtin.zeroCells z.cells q).toList,u.oneCell' = true:=by
  intro q u hu
  have hpos:0 < z.cells.size:=by rw [e5];exact e6
  simp only [Builtin.zeroCells,Array.toList_map,List.mem_map] at hu
  obtain ⟨j,-,rfl⟩:=hu
  have hj:j % z.cells.size < z.cells.size:=Nat.mod_lt _ hpos
  rw [getElem!_pos z.cells _ hj]
  exact e7 _ (Array.getElem_mem_toList hj)
 have nilc:a.eval (.tmp s) = .slice none 0 0→Does P Φ0 W M a w o { t:=upd (upd σ.t s (σ.t s).bare) d (.msl id 0 m k),b:=upd σ.b id (some ds),m:=σ.m }:=by
  intro hs0
  have hr:=run_append_nil (P:=P) w t o.type e i z hu e1 e2 adr m cx news (by rw [hnl,e3]) hcells O_ O_ (by rw [e4];omega)
  refine ⟨_,_,_,hrun _ _ (by rw [hs0,hxv];exact hr), .inl rfl,?_⟩
  rw [hd]
  exact Rel.freshBox h hlow hid hmid hM e (grownCap_ge w m 0 e) (grownCap_le_maxLen w m 0 e O_) hxr hxo (hz _) hno
 have grow:∀(ad2:Addr) cap,a.eval (.tmp s) = .slice (some ad2) 0 cap→cap≤maxLen→¬(m≤cap)→Does P Φ0 W M a w o { t:=upd (upd σ.t s (σ.t s).bare) d (.msl id 0 m k),b:=upd σ.b id (some ds),m:=σ.m }:=by
  intro ad2 cap hsv hcapm hroom
  have hr:=run_append_grow (P:=P) w t o.type e i z hu e1 e2 ad2 0 cap [] S_ (fun j u hj=>by simp at hj) adr m cx news (by rw [hnl,e3]) hcells O_ O_ (growslice_fits O_ (by rw [e4,Nat.zero_add];exact c1))
  refine ⟨_,_,_,hrun _ _ (by rw [hsv,hxv];exact hr), .inl rfl,?_⟩
  rw [hd]
  have:=Rel.freshBox h (s:=s) hlow hid hmid hM (k:=k) (rest:=Builtin.zeroCells z.cells (grownCap w (0+m) cap e - (0+m))) e (Nat.le_trans (Nat.le_of_eq (Nat.zero_add m).symm) (grownCap_ge w (0+m) cap e)) (grownCap_le_maxLen w (0+m) cap e O_) hxr hxo (hz _) hno
  simpa using this
 rcases hs with hs|hs
 ·have:=h.tmps s
  rw [hs] at this
  exact nilc this.nilsl_inv
 ·rcases h.own s 0 k [] e hs with ⟨hnil,-⟩|⟨g,cap,cur,hv,hB,hg,q1,q2,q3,q4,q5⟩|⟨hfull,-⟩
  ·exact nilc hnil
  ·have hsv:a.eval (.tmp s) = .slice (some ⟨g,0,none⟩) 0 cap:=hv
   by_cases hroom:m≤cap
   ·have hfit:0 * i.size+news.length≤cur.size:=by rw [hnl,q3,Nat.zero_mul,Nat.zero_add];exact Nat.mul_le_mul_right _ hroom
    have hr:=run_append_room (P:=P) w t o.type e i hu e1 g 0 cap cur hg adr m cx news (by rw [hnl,e3]) hcells hxo O_ hfit
    refine ⟨_,_,_,hrun _ _ (by rw [hsv,hxv];exact hr), .inl rfl,?_⟩
    rw [hd]
    have:=h.appendBox (s:=s) hlow hid hmid hM hg hroom q3 q4 (fun j=>q5.2 j (by rw [Nat.zero_mul];omega)) hB q2 hdl hxr hxo hno
    simpa using this
   ·exact grow _ cap hsv q2 hroom
  ·exact absurd hfull (Nat.not_le.2 he)
end
section
open Go.RowKit
variable {P:Program} {T:Tab} {σ:PS} {o:Oper} {i base:Nat} {ops:Array Oper} {ok:Nat→Nat→Bool} {rest:List (Nat×Oper)} {K:PS→Prop}
theorem X5.strM {d n e kk by_ id o' : Nat} {zr bs:List PV} {l:List Int} {s:ByteArray} {x:Operand} {ts td:TypeId} {si di ei:TyI} (hg:Xk ops σ o=some true) (hd:o.dst=some d) (hop:o.op = .convert ts td x) (hx:pev σ x = .msl id o' n 1) (hbs:(σ.only (ok i)).b id=some bs) (hs:T.at ts=some si) (ht:T.at td=some di) (hk1:si.kind = .slice e kk by_ zr) (hk2:di.kind = .str) (he:T.at e=some ei) (hke:ei.kind = .int .u8) (htd:Nat.beq td strT=true) (hb:σ.freeB (base+i)=true)
  (hle:o' + n≤bs.length) (hl:((bs.drop o').take n).map PV.bare=l.map Xh) (hr:strI l=s) (kn:X5 P T ops base ok rest K (σ.put d (pstr s))):X5 P T ops base ok ((i,o) :: rest) K σ:=by
 refine X5.stepM hg (E:=⟨.val (.string (strI l)),[],none,[]⟩) ?_ hb (by rw [hd,hr];exact kn)
 have hl' : bytesOf (((bs.drop o').take n).map PV.bare)=some l:=by rw [hl];exact X7i l
 simp only [hop,Zf,htd,if_true,hs,ht,Xv,hx,Xkx,hk1,hk2,he,hbs,hke,hle,and_self,hl',Option.map_some]
theorem X5.appN {d s m k e by_:Nat} {ds zr:List PV} {own:Option TypeId} {x:Operand} {t:TypeId} {sz:Nat} {ag:Bool} {zz:List PV} {es:List SK} (hT:T=Kf P) (hg:Xk ops σ o=some true) (hok:∀j id,ok j id=true) (hd:o.dst=some d) (hop:o.op = .call { callee:=.builtin .append,args := #[.tmp s,x],argTypes := #[t,t] })
  (hs:σ.t s = .nilsl∨σ.t s = .sl 0 k [] (some e)) (hx:pev σ x = .sl m k ds own) (ht:T.at t=some ⟨sz,ag, .slice e k by_ zr,zz,es⟩) (hb:σ.freeB (base+i)=true) (hlow:Nat.blt (base+i) 1000000=true) (he:Nat.blt e 1000000=true) (h1:m * by_≤140737488355328) (h2:m≤140737488355328) (h0:0 < m) (hone:ds.all PV.one=true) (hno:ds.all (fun c => !c.ownB)=true)
  (kn:X5 P T ops base ok rest K (((σ.put s (σ.t s).bare).setb (base+i) ds).put d (.msl (base+i) 0 m k))):X5 P T ops base ok ((i,o) :: rest) K σ:=by
 refine X5.sem (E:=⟨.msl (base+i) 0 m k,[(base+i,ds)],some s,[]⟩) hg hok ?_ (by rw [hd];exact kn)
 intro Φ0 W M a w hM hrel
 obtain ⟨Φ,μ,ω,hr⟩:=hrel
 obtain ⟨q1,q2⟩:=PS.freeB_spec hb
 have:=Xvr hT hr o (id:=base+i) (by simpa [Nat.blt_eq] using hlow) q1 q2 hd (hM d hd) hop ht rfl hs (by simpa [Nat.blt_eq] using he) hx h1 h2 h0 hone (fun c hc=>by simpa using List.all_eq_true.1 hno c hc)
 rw [hd]
 exact this
end
section
open Go.RowKit
variable {Φ0:Ent} {W:World} {M:Nat} {Φ:Imm} {μ:Nat→Option Nat} {ω:Nat→Option Who} {σ:PS} {a:Act} {w:World} {P:Program} {T:Tab}
theorem RelG.still (h:RelG Φ0 W M Φ μ ω σ a w) {g:Nat} {cur:Array Value} {Ty:TypeId} (hg:w.heap[g]? = some (.cells cur Ty (0,0))) (hB:Mine Φ0 W g) (hω:ω g=none) (hΦ:∀j,Φ g j=none):RelG Φ0 W M (Kt Φ g cur) μ ω σ a w:=by
 refine h.grow h.below ?_ ?_ ?_ ?_ (Nat.le_refl _)
 ·intro b o u e
  unfold Kt at e
  split at e
  ·subst b;simp only [World.cell?,hg];simpa using e
  ·exact h.imm b o u e
 ·intro b o hb;unfold Kt;rw [if_neg];rintro rfl;exact hB.ne hb rfl
 ·intro b o u e;unfold Kt;rw [if_neg]
  ·exact e
  ·rintro rfl;rw [hΦ] at e;cases e
 ·intro g' p e
  refine ⟨rfl,fun j=>?_⟩
  unfold Kt;rw [if_neg];rintro rfl;rw [hω] at e;cases e
theorem RelG.see (h:RelG Φ0 W M Φ μ ω σ a w) {s:Nat} {p:PV} (hp:Rep Φ μ p (a.tmps.getD s undef)) (ho:p.ownB=false):RelG Φ0 W M Φ μ ω (σ.put s p) a w:=by
 refine { h with tmps:=fun u=>?_,own:=fun u n k cs E e=>?_ }
 ·by_cases hu:u=s
  ·subst hu;simp only [PS.put,X8,if_true];exact hp
  ·simp only [PS.put,X8,if_neg hu];exact h.tmps u
 ·by_cases hu:u=s
  ·subst hu;simp only [PS.put,X8,if_true] at e;rw [e] at ho;simp [PV.ownB] at ho
  ·simp only [PS.put,X8,if_neg hu] at e ⊢; exact h.own u n k cs E e
theorem Sub.freeze {σ' : PS} {id s n k:Nat} {cs:List PV} (hb:σ.b id=some cs) (hs:σ.t s = .msl id 0 n k) (hl:cs.length=n * k) (hlow:∀c∈cs,Low c) (hsub:SubR (fun i=>i) (Kn σ') σ σ') (hid:σ'.freeB id=true):Sub M σ (σ'.put s (.sl n k cs none)):=by
 rintro Φ0 W a w ⟨Φ,μ,ω,hg⟩
 have h1:=hsub.rel (fun i hi=>hi.spec) (fun i j _ _ e=>e) (fun i _ _ _=>rfl) hg
 obtain ⟨g,cur,Ty,b1,b2,b3,b4,b5,b6,b7⟩:=hg.box id cs hb
 have hun:unren (fun i=>i) (Kn σ') (ω g)=none:=by
  rw [b4]
  unfold unren
  split
  ·rename_i h2;cases h2
  ·split
   ·rename_i hh
    obtain ⟨q,⟨i,hi,hq⟩,e⟩:=hh
    exfalso
    rcases hq with rfl|⟨j,rfl⟩
    ·simp only [renW,Option.some.injEq,Who.box.injEq] at e
     subst e
     rw [Kn,hid] at hi;cases hi
    ·simp [renW] at e
   ·rfl
 have h2:=h1.still b2 b3 hun b5
 refine ⟨_,_,_,h2.see ?_ rfl⟩
 have hv:=hg.tmps s
 rw [hs] at hv
 obtain ⟨ad,cap,hvv,c1,c2,c4⟩:=hv.msl_inv
 rw [hvv]
 rcases Nat.eq_zero_or_pos n with h0|h0
 ·subst h0
  have:cs = []:=List.eq_nil_of_length_eq_zero (by simpa using hl)
  subst this
  exact .sl0 _ _ _ _ (by assumption)
 ·obtain ⟨g',hg',rfl⟩:=c4 h0
  rw [b1] at hg'; cases hg'
  refine .sl n k cs none g 0 cap (fun j=>cur.getD j undef) hl (by assumption) (by assumption) (fun j hj=>?_) (fun j c hc=>?_)
  ·unfold Kt
   rw [if_pos rfl,Nat.zero_add,Array.getD_eq_getD_getElem?]
   rw [Array.getElem?_eq_getElem O_];rfl
  ·obtain ⟨u,r1,r2,r3,-⟩:=b7 j c hc
   rw [Array.getD_eq_getD_getElem?,r1]
   refine Rep.mono (Φ:=Φ) (fun b o u e=>?_) (fun _ _ e=>e) (r3.low (hlow c (Xc hc)))
   unfold Kt
   rw [if_neg]
   ·exact e
   ·rintro rfl;rw [b5] at e;cases e
theorem PW.freeze {σ' : PS} {id s n k:Nat} {cs:List PV} {c:Code} {Q:Exit→PS→Prop} (hb:σ.b id=some cs) (hs:σ.t s = .msl id 0 n k) (hl:cs.length=n * k) (hlow:∀c∈cs,Low c) (hsub:SubR (fun i=>i) (Kn σ') σ σ') (hid:σ'.freeB id=true) (h:PW P M c Q (σ'.put s (.sl n k cs none))):PW P M c Q σ:=
 h.sub (Sub.freeze hb hs hl hlow hsub hid)
end
section
open Go.RowKit
variable {P:Program} {T:Tab} {σ:PS} {o:Oper} {i base:Nat} {ops:Array Oper} {ok:Nat→Nat→Bool} {rest:List (Nat×Oper)} {K:PS→Prop}
theorem X5.appM {d s n m k e by_ id off:Nat} {cs bs new zr:List PV} {x:Operand} {t:TypeId} {ti:TyI} (hT:T=Kf P) (hg:Xk ops σ o=some true) (hok:∀j id,ok j id=true) (hd:o.dst=some d) (hop:o.op = .call { callee:=.builtin .append,args := #[.tmp s,x],argTypes := #[t,t] })
  (ht:T.at t=some ti) (hk:ti.kind = .slice e k by_ zr) (hs:Xhx e k (σ.t s)=some (n,cs)) (hfu:Xhu e (σ.t s)=false) (hx:pev σ x = .msl id off m k) (hbs:σ.b id=some bs) (hle:off+m * k≤bs.length) (hnew:((bs.drop off).take (m * k)).map PV.bare=new) (he:Nat.blt e 1000000=true) (h1:(n+m) * by_≤140737488355328) (h2:n+m≤140737488355328)
  (kn:X5 P T ops base ok rest K ((σ.put s (σ.t s).bare).put d (.sl (n+m) k (cs ++ new) (some e)))):X5 P T ops base ok ((i,o) :: rest) K σ:=by
 subst hnew
 refine X5.sem (E:=⟨.sl (n+m) k (cs ++ ((bs.drop off).take (m * k)).map PV.bare) (some e),[],some s,[]⟩) hg hok ?_ (by rw [hd];exact kn)
 intro Φ0 W M a w hM hrel
 obtain ⟨Φ,μ,ω,hr⟩:=hrel
 exact Xbg hr o hd (hM d hd) hop (Y9 hT ht) hk hs h1 h2 (by simpa [Nat.blt_eq] using he) (.inl hfu) hx hbs hle
end
section
open Go.RowKit
inductive X4v:PV→Prop
 |undef:X4v .undef
 |val (v:Value):X4v (.val v)
 |nilsl:X4v .nilsl
 |ptr (id off:Nat):X4v (.ptr id off)
 |msl (id off n k:Nat):X4v (.msl id off n k)
 |mref (id:Nat):X4v (.mref id)
 |agg (cs:List PV) (h:∀c∈cs,X4v c):X4v (.agg cs)
 |tup (cs:List PV) (h:∀c∈cs,X4v c):X4v (.tup cs)
 |fn (f:FuncId) (cs:List PV) (h:∀c∈cs,X4v c):X4v (.fn f cs)
theorem Rep.flatV {Φ Φ' : Imm} {μ μ' : Nat→Option Nat} (hμ:∀i g,μ i=some g→μ' i=some g) {p:PV} {v:Value} (h:Rep Φ μ p v) (hl:X4v p):Rep Φ' μ' p v:=by
 induction h with
 |undef v=>exact .undef v
 |val v h=>exact .val v h
 |nilsl=>exact .nilsl
 |sl0=>cases hl
 |sl=>cases hl
 |ptr id off g h=>exact .ptr id off g (hμ _ _ h)
 |msl id off n k a cap h h2 h3=>exact .msl id off n k a cap (fun hn=>by obtain ⟨g,h1,h4⟩:=h hn;exact ⟨g,hμ _ _ h1,h4⟩) h2 h3
 |ep=>cases hl
 |fn f cs us hr ih=>cases hl with|fn _ _ hl=>exact .fn f cs us (fun j c hj=>ih j c hj (hl c (Xc hj)))
 |agg cs us hr ih=>cases hl with|agg _ hl=>exact .agg cs us (fun j c hj=>ih j c hj (hl c (Xc hj)))
 |tup cs us hr ih=>cases hl with|tup _ hl=>exact .tup cs us (fun j c hj=>ih j c hj (hl c (Xc hj)))
 |mref id g h=>exact .mref id g (hμ _ _ h)
def X4p (c:PV):Prop:=X4v c∨∃n k cs E,c = .sl n k cs (some E)∧E < 1000000∧∀x∈cs,X4v x
structure Xm1 (σ:PS):Prop where
 t:∀t,X4p (σ.t t)
 b:∀i bs,σ.b i=some bs→∀c∈bs,X4p c
 m:∀i es clock,σ.m i=some (.map es clock)→∀e∈es,X4v e.2.1∧X4p e.2.2
theorem X4p.rep {c:PV} (hs:X4p c) {B:Nat→Prop} {Φ Φ' : Imm} {μ μ' : Nat→Option Nat} {ω:Nat→Option Who} {w:World} {q:Who} {v:Value} (hμ:∀i g,μ i=some g→μ' i=some g) (hr:Rep Φ μ c v) (ho:∀n k cs E,c = .sl n k cs (some E)→Ki B Φ ω w q n k E v) (hΦ:∀g,ω g=some q→∀j,Φ' g j=Φ g j):Rep Φ' μ' c v:=by
 rcases hs with hs|⟨n,k,cs,E,rfl,hE,hf⟩
 ·exact hr.flatV hμ hs
 ·have h0:∀ad cap,cap≤maxLen→n=0→v = .slice ad 0 cap→Rep Φ' μ' (.sl n k cs (some E)) v:=by
   intro ad cap hc hn hv
   obtain ⟨_,_,_,_,_,_,_,_,q3,_⟩:=hr.sl_inv
   subst hn hv
   obtain rfl:cs = []:=List.eq_nil_of_length_eq_zero O_
   exact .sl0 _ _ _ _ hc
  rcases ho n k cs E rfl with ⟨h1,h2⟩|⟨g,cap,cur,h1,h2,h3,h4,h5,h6,h7,h8⟩|⟨h1,-⟩
  ·exact h0 none 0 (by unfold maxLen;omega) h2 h1
  ·rcases Nat.eq_zero_or_pos n with hn|hn
   ·exact h0 _ cap h5 hn (by rw [h1,hn])
   ·obtain ⟨a,b,off,cap',us,hv,q1,q2,q3,q4,q5,q6⟩:=hr.sl_inv
    rw [h1] at hv
    cases hv
    have e:=q4 hn
    cases e
    rw [h1]
    refine .sl n k cs _ _ _ _ us q3 q1 q2 (fun j hj=>?_) (fun j c hc=>(q6 j c hc).flatV hμ (hf c (Xc hc)))
    rw [hΦ g h7];exact q5 j hj
  ·exact absurd h1 (Nat.not_le.2 hE)
end
section
open Go.RowKit
variable {Φ0:Ent} {W:World} {M:Nat} {Φ:Imm} {μ:Nat→Option Nat} {ω:Nat→Option Who} {σ:PS} {a:Act} {w:World} {P:Program} {T:Tab}
open Classical in
theorem Sub.thaw {σ' : PS} {id s n:Nat} {l:List Int} {E:TypeId} (hs:σ.t s = .sl n 1 (l.map pint) (some E)) (hE:E < 1000000) (hn:0 < n) (hsub:SubR (fun i=>i) (Kn σ') σ σ') (hid:σ'.freeB id=true) (hlow:id < 1000000) (hs' : σ'.t s = .undef) (hst:Xm1 σ'):Sub M σ ((σ'.setb id (l.map pint)).put s (.msl id 0 n 1)):=by
 rintro Φ0 W a w ⟨Φ,μ,ω,hg⟩
 have h1:=hsub.rel (fun i hi=>hi.spec) (fun i j _ _ e=>e) (fun i _ _ _=>rfl) hg
 obtain ⟨q1,q2⟩:=PS.freeB_spec hid
 have hv:=hg.tmps s
 rw [hs] at hv
 rcases hg.own s n 1 _ E hs with ⟨-,h0⟩|⟨g,cap,cur,k1,k2,k3,k4,k5,k6,k7,k8⟩|⟨h0,-⟩
 ·omega
 rotate_left
 ·exact absurd h0 (Nat.not_le.2 hE)
 rw [k1] at hv
 obtain ⟨a0,b0,off,cap',us,hvv,p1,p2,p3,p4,p5,p6⟩:=hv.sl_inv
 cases hvv
 have e:=p4 hn
 cases e
 have hlen:l.length=n:=by simpa using p3
 -- the cells
 have hcell:∀j,j < n→∃z,l[j]? = some z∧us j = .int .i64 z∧cur[j]? = some (.int .i64 z):=by
  intro j hj
  have hj' : j < l.length:=O_
  have r1:=p6 j (pint l[j]) (by simp [hj'])
  obtain ⟨r2,-⟩:=r1.val_inv
  have r3:=hg.imm _ _ _ (p5 j (by simpa using hj'))
  simp only [World.cell?,k3,Nat.zero_add] at r3
  refine ⟨l[j],by simp [hj'],r2,?_⟩
  rw [←r2];simpa using r3
 have hwho:(fun g=>unren (fun i=>i) (Kn σ') (ω g)) g=some (.tmp s):=by show unren _ _ (ω g)=_;rw [k7];rfl
 generalize hμ1:(fun i=>if Kn σ' i then μ ((fun i=>i) i) else none)=μ1 at h1
 generalize hω1:(fun g=>unren (fun i=>i) (Kn σ') (ω g))=ω1 at h1 hwho
 let Φ' : Imm:=fun b o=>if b=g then none else Φ b o
 have hoth:∀b j,b≠g→Φ' b j=Φ b j:=fun b j hb=>if_neg hb
 have hself:∀j,Φ' g j=none:=fun j=>if_pos rfl
 have hμ:∀i g',μ1 i=some g'→upd μ1 id (some g) i=some g':=by
  intro i g' e'
  simp only [X8]
  rw [if_neg (by rintro rfl;rw [h1.gone _ q1 q2] at e'; cases e')];exact e'
 have hω:∀q g',q≠.tmp s→ω1 g' = some q→g'≠g∧upd ω1 g (some (.box id)) g' = some q:=by
  intro q g' hq e'
  have hne:g'≠g:=by rintro rfl;rw [hwho] at e'; cases e'; exact hq rfl
  exact ⟨hne,by simp only [X8,if_neg hne];exact e'⟩
 have hΦq:∀q,q≠.tmp s→∀g',ω1 g' = some q→∀j,Φ' g' j=Φ g' j:=fun q hq g' e' j=>hoth g' j (hω q g' hq e').1
 have hown:∀q n' k' E' v,q≠.tmp s→Ki (Mine Φ0 W) Φ ω1 w q n' k' E' v→Ki (Mine Φ0 W) Φ' (upd ω1 g (some (.box id))) w q n' k' E' v:=by
  intro q n' k' E' v hq hh
  exact hh.step (fun g' e' => ⟨rfl,hΦq q hq g' e',(hω q g' hq e').2⟩)
 refine ⟨Φ',upd μ1 id (some g),upd ω1 g (some (.box id)),h1.below,h1.defers,h1.size,?_,?_,fun t=>?_,fun t n' k' cs' E' et=>?_,fun i bs eb=>?_,fun i e' em=>?_,fun g' p e' => ?_,h1.gmu,fun i g' e' hi=>?_,fun b o u e' => ?_,fun i X e' => ?_,fun g' p e' => ?_⟩
 ·intro b o u e'
  by_cases hb:b=g
  ·subst hb;rw [hself] at e'; cases e'
  ·rw [hoth b o hb] at e'; exact h1.imm b o u e'
 ·intro b o hb
  rw [hoth b o (k2.ne hb)];exact h1.old b o hb
 ·simp only [PS.put,PS.setb,X8]
  by_cases ht:t=s
  ·subst ht
   simp only [if_true]
   rw [k1]
   exact .msl id 0 n 1 _ cap (fun _=>⟨g,by simp [X8],rfl⟩) p1 p2
  ·simp only [if_neg ht]
   exact (hst.t t).rep hμ (h1.tmps t) (fun n k cs E e' => h1.own t n k cs E e') (hΦq (.tmp t) (by simp [ht]))
 ·simp only [PS.put,PS.setb,X8] at et
  by_cases ht:t=s
  ·simp only [if_pos ht] at et;cases et
  ·simp only [if_neg ht] at et
   exact hown _ _ _ _ _ (by simp [ht]) (h1.own t n' k' cs' E' et)
 ·simp only [PS.put,PS.setb,X8] at eb
  by_cases hi:i=id
  ·subst hi
   simp only [if_true] at eb
   cases eb
   refine ⟨g,cur,E,by simp [X8],k3,k2,by simp [X8],hself,by simp;omega,fun j c hc=>?_⟩
   have hj:j < n:=by have:=(List.getElem?_eq_some_iff.1 hc).1;simp at this;omega
   obtain ⟨z,z1,-,z3⟩:=hcell j hj
   rw [M_,z1] at hc
   simp only [Option.map_some,Option.some.injEq] at hc
   subst hc
   exact ⟨_,z3,rfl, .val _ rfl,fun n k cs E e' => by cases e'⟩
  ·simp only [if_neg hi] at eb
   obtain ⟨g2,cur',Ty,r1,r2,r3,r4,r5,r6,r7⟩:=h1.box i bs eb
   obtain ⟨hne,hw2⟩:=hω (.box i) g2 S_ r4
   refine ⟨g2,cur',Ty,hμ _ _ r1,r2,r3,hw2,fun j=>by rw [hoth g2 j hne];exact r5 j,r6,fun j c hc=>?_⟩
   obtain ⟨u,s1,s2,s3,s4⟩:=r7 j c hc
   exact ⟨u,s1,s2,(hst.b i bs eb c (Xc hc)).rep hμ s3 s4 (hΦq (.cell i j) S_),fun n k cs E e' => hown _ _ _ _ _ S_ (s4 n k cs E e')⟩
 ·simp only [PS.put,PS.setb,X8] at e' em
  by_cases hi:i=id
  ·subst hi;simp at e'
  ·simp only [if_neg hi] at e'
   simp only [X8,if_neg hi]
   exact h1.gone i e' em
 ·simp only [X8] at e'
  split at e'
  ·subst g'; exact (Array.getElem?_eq_some_iff.1 k3).1
  ·exact h1.lt g' p e'
 ·have hne:i≠id:=by have:=h1.gmu i g' e'; omega
  simp only [PS.put,PS.setb,X8,if_neg hne] at hi ⊢
  exact h1.kmu i g' e' hi
 ·obtain ⟨e1,e2⟩:=h1.ext b o u e'
  refine ⟨?_,e2⟩
  rw [hoth b o]
  ·exact e1
  ·rintro rfl
   rcases k2 with hm|hm
   ·omega
   ·obtain ⟨o2,u2,e3,hfl⟩:=Φ0.fl _ hm _ _ e'
    have e4:=(h1.ext _ _ _ e3).1
    by_cases ho:o2 < n
    ·have h5:=p5 o2 (by simp;omega)
     rw [Nat.zero_add,e4] at h5
     cases h5
     obtain ⟨z,-,z2,-⟩:=hcell o2 ho
     rw [z2] at hfl;cases hfl
    ·rw [k8.2 o2 O_] at e4;cases e4
 ·simp only [PS.put,PS.setb] at e'
  obtain ⟨g2,r1,r2,r3,r4,r5⟩:=h1.map i X e'
  obtain ⟨hne,hw2⟩:=hω (.box i) g2 S_ r3
  refine ⟨g2,hμ _ _ r1,r2,hw2,fun j=>by rw [hoth g2 j hne];exact r4 j,?_⟩
  cases X with
  |map es clock=>
   obtain ⟨t0,ents,t1,t2,t3⟩:=r5
   refine ⟨t0,ents,t1,t2,fun j st k c hj=>?_⟩
   obtain ⟨en,f1,f2,f3,f4,f5⟩:=t3 j st k c hj
   have hh:=hst.m i es clock e' _ (Xc hj)
   exact ⟨en,f1,f2,f3.flatV hμ hh.1,hh.2.rep hμ f4 f5 (hΦq (.cell i st) S_),fun n kk cs E ec=>hown _ _ _ _ _ S_ (f5 n kk cs E ec)⟩
  |iter mid since seen last=>
   obtain ⟨gm,t1,t2⟩:=r5
   exact ⟨gm,hμ _ _ t1,t2⟩
 ·simp only [X8] at e'
  split at e'
  ·subst g'; exact k2
  ·exact h1.mine g' p e'
theorem PW.thaw {σ' : PS} {id s n:Nat} {l:List Int} {E:TypeId} {c:Code} {Q:Exit→PS→Prop} (hs:σ.t s = .sl n 1 (l.map pint) (some E)) (hE:E < 1000000) (hn:0 < n) (hsub:SubR (fun i=>i) (Kn σ') σ σ') (hid:σ'.freeB id=true) (hlow:id < 1000000) (hs' : σ'.t s = .undef) (hst:Xm1 σ') (h:PW P M c Q ((σ'.setb id (l.map pint)).put s (.msl id 0 n 1))):PW P M c Q σ:=
 h.sub (Sub.thaw hs hE hn hsub hid hlow hs' hst)
theorem Sub.freezeI {σ' : PS} {id s off:Nat} {cs:List PV} (hb:σ.b id=some cs) (hs:σ.t s = .ptr id off) (hlow:∀c∈cs,LowI (Kn σ') c) (hsub:SubR (fun i=>i) (Kn σ') σ σ') (hid:σ'.freeB id=true):Sub M σ (σ'.put s (.ep cs off)):=by
 rintro Φ0 W a w ⟨Φ,μ,ω,hg⟩
 have h1:=hsub.rel (fun i hi=>hi.spec) (fun i j _ _ e=>e) (fun i _ _ _=>rfl) hg
 obtain ⟨g,cur,Ty,b1,b2,b3,b4,b5,b6,b7⟩:=hg.box id cs hb
 have hun:unren (fun i=>i) (Kn σ') (ω g)=none:=by
  rw [b4]
  unfold unren
  split
  ·rename_i h2;cases h2
  ·split
   ·rename_i hh
    obtain ⟨q,⟨i,hi,hq⟩,e⟩:=hh
    exfalso
    rcases hq with rfl|⟨j,rfl⟩
    ·simp only [renW,Option.some.injEq,Who.box.injEq] at e
     subst e
     rw [Kn,hid] at hi;cases hi
    ·simp [renW] at e
   ·rfl
 have h2:=h1.still b2 b3 hun b5
 refine ⟨_,_,_,h2.see ?_ rfl⟩
 have hv:=hg.tmps s
 rw [hs] at hv
 obtain ⟨g',hg',hvv⟩:=hv.ptr_inv
 rw [b1] at hg'; cases hg'
 rw [hvv]
 have e0:(⟨g,off,none⟩:Addr)=⟨g,0+off,none⟩:=by rw [Nat.zero_add]
 rw [e0]
 refine .ep cs off g 0 (fun j=>cur.getD j undef) (fun j hj=>?_) (fun j c hc=>?_)
 ·unfold Kt
  rw [if_pos rfl,Nat.zero_add,Array.getD_eq_getD_getElem?]
  rw [Array.getElem?_eq_getElem O_];rfl
 ·obtain ⟨u,r1,r2,r3,-⟩:=b7 j c hc
  rw [Array.getD_eq_getD_getElem?,r1]
  refine Rep.mono (Φ:=Φ) (fun b o u e=>?_) (fun _ _ e=>e) (r3.lowI (hlow c (Xc hc)) (fun i hi g e=>(if_pos hi).trans e))
  unfold Kt
  rw [if_neg]
  ·exact e
  ·rintro rfl;rw [b5] at e;cases e
theorem Sub.freezeP {σ' : PS} {id s off:Nat} {cs:List PV} (hb:σ.b id=some cs) (hs:σ.t s = .ptr id off) (hlow:∀c∈cs,Low c) (hsub:SubR (fun i=>i) (Kn σ') σ σ') (hid:σ'.freeB id=true):Sub M σ (σ'.put s (.ep cs off)):=
 Sub.freezeI hb hs (fun c hc=>(hlow c hc).lowI) hsub hid
theorem PW.freezeP {σ' : PS} {id s off:Nat} {cs:List PV} {c:Code} {Q:Exit→PS→Prop} (hb:σ.b id=some cs) (hs:σ.t s = .ptr id off) (hlow:∀c∈cs,Low c) (hsub:SubR (fun i=>i) (Kn σ') σ σ') (hid:σ'.freeB id=true) (h:PW P M c Q (σ'.put s (.ep cs off))):PW P M c Q σ:=
 h.sub (Sub.freezeP hb hs hlow hsub hid)
end
section
open Go
structure Yn where
 name:ByteArray
 kind:Int
 n:Int
 s:ByteArray
structure PDef where
 name:ByteArray
 kind:Int
 lo:Int
 hi:Int
 words:List ByteArray
structure V3 where
 dims:Int
 metric:Int
 defs:List PDef
structure K9 where
 id:Int
 ver:Int
 owner:Int
 filed:Int
 frm:Int
 to:Int
 born:Int
 vec:List Int
 attrs:List Yn
def lowI (c:Int):Bool:=decide (97≤c) && decide (c≤122)
end
section
open Go.RowKit
def MidP {α:Type} (M:Nat) (st:α→PS) (I:α→Prop) (Q:Exit→PS→Prop):Exit→PS→Prop
 | .normal,σ=>∃x,I x∧Sub M σ (st x)
 |e,σ=>Q e σ
end
section
open Go.RowKit
variable {P:Program} {M:Nat} {Q:Exit→PS→Prop} {σ:PS}
theorem midP {α:Type} {st:α→PS} {I:α→Prop} (x:α) (hi:I x) (hs:Sub M σ (st x)):MidP M st I Q .normal σ:=⟨x,hi,hs⟩
theorem PW.cutT {α:Type} {c y:Code} (st:α→PS) (I:α→Prop) (h1:PW P M c (MidP M st I Q) σ) (h2:∀x,I x→PW P M y Q (st x)):PW P M c (Xp9 P M y Q) σ:=by
 refine PW.conseq h1 fun e σ' h=>?_
 cases e with
 |normal=>
  obtain ⟨x,hx,hs⟩:=h
  exact PW.sub (h2 x hx) hs
 |_=>exact h
end
end Go.Proofs.YtmciloafahkolaaGreatDoor
