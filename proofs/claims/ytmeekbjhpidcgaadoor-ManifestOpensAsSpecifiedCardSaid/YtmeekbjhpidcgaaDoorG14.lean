/- Out of: PwN, PwO, PwP, PwQ0, Opens, Opens2, PwQ, PwQ2, Tab, PwU, PwV, PwW, PwX, PwT, Pa, PwX2, PwIt, PwZ4. -/
import Derived.Deep.Slices
import Derived.Lib.LaidU8
import Derived.LaidMore
import Derived.LaidLaws
import Derived.Stop.Joined
import Derived.MakeChecks
import Derived.KernelRfl
import Derived.StillTailTactics
import Derived.Deep.Cut
import Derived.RangeFuncCalls
import Derived.Test.YtmeekbjhpidcgaaDoorG12
import Derived.Test.YtmeekbjhpidcgaaDoorG13
namespace Go.Proofs.YtmeekbjhpidcgaaDoor
set_option linter.unusedSimpArgs false
set_option linter.unusedVariables false
set_option linter.unnecessarySimpa false
section
open Go.RowKit
variable {P:Program} {T:Tab} {σ:PS} {ops:Array Oper} {base:Nat} {ok:Nat→Nat→Bool}
def stripO (s:Option Nat) (t:Nat→PV):Nat→PV:=match s with|some s=>upd t s (t s).bare|none=>t
def putO (d:Option Nat) (v:PV) (t:Nat→PV):Nat→PV:=match d with|some d=>upd t d v|none=>t
def setO {α:Type} (b:List (Nat×α)) (m:Nat→Option α):Nat→Option α:=b.foldl (fun b x=>upd b x.1 (some x.2)) m
theorem setO_cons {α:Type} (x:Nat×α) (l:List (Nat×α)) (m:Nat→Option α):setO (x :: l) m=setO l (upd m x.1 (some x.2)):=rfl
theorem setO_not {α:Type} {j:Nat} : ∀(l:List (Nat×α)) (m:Nat→Option α),(∀i cs,(i,cs)∈l→i≠j)→setO l m j=m j
 | [],_,_=>rfl
 |x :: l,m,h=>by
  rw [setO_cons,setO_not l _ (fun i cs hi=>h i cs (List.mem_cons_of_mem _ hi))]
  exact upd_ne _ _ (fun e=>h x.1 x.2 List.mem_cons_self e.symm)
theorem setO_some {α:Type} {j:Nat} : ∀(l:List (Nat×α)) (m:Nat→Option α),(m j≠none∨∃cs,(j,cs)∈l)→setO l m j≠none
 | [],m,h=>by
  rcases h with h|⟨cs,h⟩
  ·exact h
  ·cases h
 |x :: l,m,h=>by
  rw [setO_cons]
  refine setO_some l _ ?_
  by_cases e:j=x.1
  ·left;subst e;simp [upd_if]
  ·rcases h with h|⟨cs,h⟩
   ·left;rw [upd_ne _ _ e];exact h
   ·right
    rcases List.mem_cons.1 h with h|h
    ·exact absurd (by rw [←h]) e
    ·exact ⟨cs,h⟩
theorem setO_upd {α:Type} {i:Nat} {v:Option α} : ∀(l:List (Nat×α)) (m:Nat→Option α),(∀j cs,(j,cs)∈l→j≠i)→setO l (upd m i v)=upd (setO l m) i v
 | [],_,_=>rfl
 |x :: l,m,h=>by
  rw [setO_cons,setO_cons,←setO_upd l _ (fun j cs hj=>h j cs (List.mem_cons_of_mem _ hj)),upd_comm _ _ _ (h x.1 x.2 List.mem_cons_self).symm]
theorem setO_comm {α:Type} : ∀(l l' : List (Nat×α)) (m:Nat→Option α),(∀i c j e,(i,c)∈l→(j,e)∈l'→i≠j)→setO l' (setO l m)=setO l (setO l' m)
 | [],_,_,_=>rfl
 |x :: l,l',m,h=>by
  rw [setO_cons,setO_cons,setO_comm l l' _ (fun i c j e hi hj=>h i c j e (List.mem_cons_of_mem _ hi) hj),setO_upd l' m (fun j cs hj=>(h x.1 x.2 j cs List.mem_cons_self hj).symm)]
theorem app_eq (σ:PS) (d:Option Nat) (E:Eff):σ.app d E=⟨putO d E.v (stripO E.dis σ.t),setO E.bx σ.b,setO E.mx σ.m⟩:=by
 obtain ⟨v,b,s,mx⟩:=E
 cases d<;>cases s<;>rfl
theorem strip_strip (s u:Option Nat) (h:∀a b,s=some a→u=some b→a≠b) (t:Nat→PV):stripO s (stripO u t)=stripO u (stripO s t):=by
 cases s with
 |none=>rfl
 |some a=>cases u with
  |none=>rfl
  |some b=>
   have:=h a b rfl rfl
   simp only [stripO]
   rw [upd_ne t _ this,upd_ne t _ this.symm]
   exact upd_comm _ _ _ this.symm
theorem strip_put (s d:Option Nat) (v:PV) (h:∀a b,s=some a→d=some b→a≠b) (t:Nat→PV):stripO s (putO d v t)=putO d v (stripO s t):=by
 cases s with
 |none=>rfl
 |some a=>cases d with
  |none=>rfl
  |some b=>
   have:=h a b rfl rfl
   simp only [stripO,putO]
   rw [upd_ne t _ this]
   exact upd_comm _ _ _ this.symm
theorem put_put (d e:Option Nat) (v u:PV) (h:∀a b,d=some a→e=some b→a≠b) (t:Nat→PV):putO d v (putO e u t)=putO e u (putO d v t):=by
 cases d with
 |none=>rfl
 |some a=>cases e with
  |none=>rfl
  |some b=>exact upd_comm _ _ _ (h a b rfl rfl).symm
theorem app_comm (σ:PS) (d1 d2:Option Nat) (E1 E2:Eff) (hd:∀a b,d1=some a→d2=some b→a≠b) (h12:∀a s,d1=some a→E2.dis=some s→s≠a) (h21:∀a s,d2=some a→E1.dis=some s→s≠a)
  (hs:∀s t,E1.dis=some s→E2.dis=some t→s≠t) (hb:∀i c j e,(i,c)∈E1.bx→(j,e)∈E2.bx→i≠j) (hm:∀i c j e,(i,c)∈E1.mx→(j,e)∈E2.mx→i≠j):(σ.app d1 E1).app d2 E2=(σ.app d2 E2).app d1 E1:=by
 simp only [app_eq]
 have e1:putO d2 E2.v (stripO E2.dis (putO d1 E1.v (stripO E1.dis σ.t)))=putO d1 E1.v (stripO E1.dis (putO d2 E2.v (stripO E2.dis σ.t))):=by
  rw [strip_put E2.dis d1 _ (fun a b ea eb=>h12 b a eb ea),strip_strip E2.dis E1.dis (fun a b ea eb=>(hs b a eb ea).symm),put_put d2 d1 _ _ (fun a b ea eb=>(hd b a eb ea).symm),strip_put E1.dis d2 _ (fun a b ea eb=>h21 b a eb ea)]
 have e2:setO E2.bx (setO E1.bx σ.b)=setO E1.bx (setO E2.bx σ.b):=setO_comm _ _ _ hb
 have e3:setO E2.mx (setO E1.mx σ.m)=setO E1.mx (setO E2.mx σ.m):=setO_comm _ _ _ hm
 rw [e1,e2,e3]
theorem app_t {d:Option Nat} {E:Eff} {t:Nat} (h:∀a,d=some a→t≠a):((σ.app d E).t t).bare=(σ.t t).bare∧(E.dis≠some t→(σ.app d E).t t=σ.t t):=by
 obtain ⟨v,b,s,mx⟩:=E
 cases d with
 |none=>cases s with
  |none=>exact ⟨rfl,fun _=>rfl⟩
  |some s=>
   simp only [PS.app,upd_if]
   by_cases e:t=s
   ·subst e;simp [PV.bare_bare]
   ·simp [e]
 |some a=>
  have:=h a rfl
  cases s with
  |none=>simp [PS.app,upd_if,this]
  |some s=>
   simp only [PS.app,upd_if,if_neg this]
   by_cases e:t=s
   ·subst e;simp [PV.bare_bare]
   ·simp [e]
theorem app_b {d:Option Nat} {E:Eff} (j:Nat) (h:∀i cs,(i,cs)∈E.bx→i≠j):(σ.app d E).b j=σ.b j:=by
 exact setO_not _ _ h
theorem app_m {d:Option Nat} {E:Eff} (j:Nat) (h:∀i X,(i,X)∈E.mx→i≠j):(σ.app d E).m j=σ.m j:=by
 exact setO_not _ _ h
theorem app_one {d:Option Nat} {E:Eff} {j:Nat} {cs:List PV} (h:E.bx = [(j,cs)]):(σ.app d E).b j=some cs:=by
 obtain ⟨v,b,s,mx⟩:=E
 simp only at h
 subst h
 exact upd_same _ _ _
theorem app_free {d:Option Nat} {E:Eff} {j:Nat} (h:(σ.app d E).freeB j=true):σ.freeB j=true:=by
 obtain ⟨h1,h2⟩:=PS.freeB_spec h
 refine PS.freeB_iff.2 ⟨?_,?_⟩
 ·cases hb:σ.b j with
  |none=>rfl
  |some bs=>exact absurd h1 (setO_some E.bx σ.b (.inl (by rw [hb];simp)))
 ·cases hb:σ.m j with
  |none=>rfl
  |some bs=>exact absurd h2 (setO_some E.mx σ.m (.inl (by rw [hb];simp)))
theorem read_flags {o:Oper} {hd:Bool} (hh:readB o.op=true):isStore hd o=true∧mapU o=true:=by
 unfold isStore mapU
 cases hop:o.op with
 |call c=>
  obtain ⟨callee,cargs,ct⟩:=c
  rw [hop] at hh
  cases callee with
  |value x=>simp [hh]
  |_=>simp [readB] at hh
 |_=>rw [hop] at hh;simp [readB] at hh
theorem may_congr {i:Nat} {o:Oper} {σ' : PS} {E:Eff} (h:May P T ops base ok i o σ E) (hev:∀t∈tmpsOf o.op.operands.toList,(σ'.t t).bare=(σ.t t).bare) (hgt:∀t∈guardT ops o,(σ'.t t).bare=(σ.t t).bare) (htk:∀s∈takesB (headB ops o.dst) o,σ'.t s=σ.t s)
  (hmm:mapU o=true→∀j X,(σ.only (ok i)).m j=some X→(σ'.only (ok i)).m j=some X) (hb:isStore (headB ops o.dst) o=true→∀j bs,(σ.only (ok i)).b j=some bs→(σ'.only (ok i)).b j=some bs) (hbl:usesBox o=true→∀j bs,(σ.only (ok i)).b j=some bs→∃bs',(σ'.only (ok i)).b j=some bs'∧bs'.map PV.bare=bs.map PV.bare)
  (hid:∀j,(j=base+i∨(heapB o.op=true∧ok i j=true))→σ.freeB j=true→σ'.freeB j=true) (hnt:∃j id,ok j id=false):May P T ops base ok i o σ' E:=by
 have hg:pguard ops σ' o=pguard ops σ o:=by
  unfold pguard
  cases hgd:o.guard with
  |none=>rfl
  |some x=>
   obtain ⟨j,want⟩:=x
   simp only
   cases hd:(ops.toList[j]?).bind (·.dst) with
   |none=>rfl
   |some d=>simp only;rw [hgt d (by simp only [guardT,hgd,hd];simp)]
 have hpc:pcall σ' o.op=pcall σ o.op:=by
  unfold pcall
  cases hop:o.op with
  |call c=>
   obtain ⟨callee,cargs,ct⟩:=c
   cases callee with
   |value x=>
    rw [hop] at hev
    have ev:∀y,y=x∨y∈cargs.toList→pev σ' y=pev σ y:=by
     intro y hy
     cases y with
     |tmp t=>
      refine hev t ?_
      simp only [tmpsOf,List.mem_filterMap]
      refine ⟨.tmp t,?_,rfl⟩
      simp only [Op.operands,Call.operands,Array.toList_append,List.mem_append]
      rcases hy with hy|hy
      ·left;simp [hy]
      ·right;exact hy
     |_=>rfl
    simp only
    rw [ev x (.inl rfl)]
    have e1:cargs.toList.map (pev σ')=cargs.toList.map (pev σ):=List.map_congr_left (fun y hy=>ev y (.inr hy))
    rw [e1]
   |_=>rfl
  |_=>rfl
 rcases h with ⟨h1,h2⟩|⟨h1,h2⟩
 ·exact .inl ⟨by rw [hg];exact h1,h2⟩
 ·refine .inr ⟨by rw [hg];exact h1,?_⟩
  rcases h2 with ⟨h2,h3⟩|⟨f,args,r,d,h2,h3,h4,h5⟩|⟨f,args,given,gm,r,res,rm,k1,k2,k3,k4,k5,k6,k7⟩|⟨hall,-⟩|⟨f,args,given,gm,r,k1,k2,k3,k4,k5,k6,k7⟩
  rotate_left 3
  ·obtain ⟨j,id,e⟩:=hnt;rw [hall j id] at e;cases e
  ·right;right;right;right
   have hh:readB o.op=true:=by
    rcases k7 with k7|k7
    ·exact k7
    ·obtain ⟨j,id,e⟩:=hnt;rw [k7 j id] at e;cases e
   have hst:=read_flags (hd:=headB ops o.dst) hh
   refine ⟨f,args,given,gm,r,by rw [hpc];exact k1,k2,AllB.of (fun x hx=>?_),AllM.of (fun x hx=>?_),k5,k6, .inl hh⟩
   ·obtain ⟨q1,q2⟩:=k3.mem x hx
    refine ⟨q1,?_⟩
    have:=hb hst.1 x.1 x.2 (by simp only [PS.only,q1,if_true];exact q2)
    simpa only [PS.only,q1,if_true] using this
   ·obtain ⟨q1,q2⟩:=k4.mem x hx
    refine ⟨q1,?_⟩
    have:=hmm hst.2 x.1 x.2 (by simp only [PS.only,q1,if_true];exact q2)
    simpa only [PS.only,q1,if_true] using this
  ·left
   have hf:=hid _ (.inl rfl) h3
   have hfo:(σ'.only (ok i)).freeB (base+i)=true:=by
    obtain ⟨q1,q2⟩:=PS.freeB_spec hf
    refine PS.freeB_iff.2 ⟨?_,?_⟩<;>simp only [PS.only,q1,q2]<;>split<;>rfl
   refine ⟨?_,hf⟩
   rcases h2 with h2|h2
   ·exact .inl (presE_congr (σ:=σ.only (ok i)) h2 hev htk hmm hb hbl hfo)
   ·exact .inr (presM_congr (σ:=σ.only (ok i)) h2 hev htk hmm hb hbl hfo)
  ·right;left
   exact ⟨f,args,r,d,h2,by rw [hpc];exact h3,h4,h5⟩
  ·right;right;left
   have hh:heapB o.op=true:=by
    rcases k7 with k7|k7
    ·exact k7
    ·obtain ⟨j,id,e⟩:=hnt;rw [k7 j id] at e;cases e
   have hst:isStore (headB ops o.dst) o=true∧mapU o=true:=by
    unfold isStore mapU
    cases hop:o.op with
    |call c=>
     obtain ⟨callee,cargs,ct⟩:=c
     rw [hop] at hh
     cases callee with
     |value x=>simp [hh]
     |_=>simp [heapB] at hh
    |_=>rw [hop] at hh;simp [heapB] at hh
   refine ⟨f,args,given,gm,r,res,rm,by rw [hpc];exact k1,k2,AllB.of (fun x hx=>?_),AllM.of (fun x hx=>?_),?_,k6, .inl hh⟩
   ·obtain ⟨q1,q2⟩:=k3.mem x hx
    refine ⟨q1,?_⟩
    have:=hb hst.1 x.1 x.2 (by simp only [PS.only,q1,if_true];exact q2)
    simpa only [PS.only,q1,if_true] using this
   ·obtain ⟨q1,q2⟩:=k4.mem x hx
    refine ⟨q1,?_⟩
    have:=hmm hst.2 x.1 x.2 (by simp only [PS.only,q1,if_true];exact q2)
    simpa only [PS.only,q1,if_true] using this
   ·simp only [hnewB,Bool.and_eq_true] at k5 ⊢
    refine ⟨k5.1,List.all_eq_true.2 fun j hj=>?_⟩
    have:=List.all_eq_true.1 k5.2 j hj
    simp only [Bool.or_eq_true,Bool.and_eq_true] at this ⊢
    rcases this with h|⟨h1,h2,h3⟩
    ·exact .inl h
    ·exact .inr ⟨h1,h2,hid j (.inr ⟨hh,h1⟩) h3⟩
theorem heap_flags {o:Oper} {hd:Bool} (hh:heapB o.op=true):isStore hd o=true∧storeB o=true∧usesBox o=true∧mapU o=true∧mapW hd o=true:=by
 unfold isStore storeB usesBox mapU mapW
 cases hop:o.op with
 |call c=>
  obtain ⟨callee,cargs,ct⟩:=c
  rw [hop] at hh
  cases callee with
  |value x=>simp [hh]
  |_=>simp [heapB] at hh
 |_=>rw [hop] at hh;simp [heapB] at hh
theorem may_foot {i:Nat} {o:Oper} {E:Eff} (h:May P T ops base ok i o σ E) (hnt:∃j id,ok j id=false):(∀s,E.dis=some s→s∈takesB (headB ops o.dst) o)∧(∀j cs,(j,cs)∈E.bx→(j=base+i∧σ.freeB (base+i)=true)∨(isStore (headB ops o.dst) o=true∧ok i j=true∧(heapB o.op=true∨σ.b j≠none))) ∧
  (∀j X,(j,X)∈E.mx→(j=base+i∧σ.freeB (base+i)=true)∨(mapW (headB ops o.dst) o=true∧ok i j=true∧(heapB o.op=true∨σ.m j≠none))):=by
 have only_b:∀j bs,(σ.only (ok i)).b j=some bs→ok i j=true∧σ.b j=some bs:=by
  intro j bs e
  simp only [PS.only] at e
  split at e
  ·rename_i hk;exact ⟨hk,e⟩
  ·cases e
 have only_m:∀j X,(σ.only (ok i)).m j=some X→ok i j=true∧σ.m j=some X:=by
  intro j bs e
  simp only [PS.only] at e
  split at e
  ·rename_i hk;exact ⟨hk,e⟩
  ·cases e
 rcases h with ⟨-,rfl⟩|⟨-,⟨h1|h1,h2⟩|⟨f,args,r,d,-,-,-,rfl⟩|⟨f,args,given,gm,r,res,rm,k1,k2,k3,k4,k5,rfl,k7⟩|⟨hall,-⟩|⟨f,args,given,gm,r,k1,k2,k3,k4,k5,rfl,k7⟩⟩
 rotate_left 5
 ·obtain ⟨j,id,e⟩:=hnt;rw [hall j id] at e;cases e
 ·exact ⟨fun s e=>(by cases e),fun j cs e=>(by cases e),fun j cs e=>(by cases e)⟩
 ·exact ⟨fun s e=>(by cases e),fun j cs e=>(by cases e),fun j cs e=>(by cases e)⟩
 ·obtain ⟨q1,q2⟩:=presE_foot h1
  refine ⟨q1,fun j cs e=>?_,fun j X e=>(by rw [presE_mx h1] at e;cases e)⟩
  rcases q2 j cs e with k|⟨k3,bs,k4⟩
  ·exact .inl ⟨k,h2⟩
  ·obtain ⟨k5,k6⟩:=only_b j bs k4
   exact .inr ⟨k3,k5, .inr (by rw [k6];simp)⟩
 ·obtain ⟨q1,q2,q3⟩:=presM_foot h1
  refine ⟨q1,fun j cs e=>?_,fun j X e=>?_⟩
  ·obtain ⟨k3,-,bs,k4⟩:=q2 j cs e
   obtain ⟨k5,k6⟩:=only_b j bs k4
   exact .inr ⟨k3,k5, .inr (by rw [k6];simp)⟩
  ·rcases q3 j X e with k|⟨k3,bs,k4⟩
   ·exact .inl ⟨k,h2⟩
   ·obtain ⟨k5,k6⟩:=only_m j bs k4
    exact .inr ⟨k3,k5, .inr (by rw [k6];simp)⟩
 ·exact ⟨fun s e=>(by cases e),fun j cs e=>(by cases e),fun j cs e=>(by cases e)⟩
 ·have hh:heapB o.op=true:=by
   rcases k7 with k7|k7
   ·exact k7
   ·obtain ⟨j,id,e⟩:=hnt;rw [k7 j id] at e;cases e
  obtain ⟨n1,n2,n3,n4⟩:=hnewB_spec k5
  have okr:∀j,j∈res.map (·.1) ++ rm.map (·.1)→ok i j=true:=by
   intro j hj
   rcases n4 j hj with h|⟨h,-⟩
   ·rcases List.mem_append.1 h with h|h
    ·obtain ⟨x,hx,rfl⟩:=List.mem_map.1 h;exact (k3.mem x hx).1
    ·obtain ⟨x,hx,rfl⟩:=List.mem_map.1 h;exact (k4.mem x hx).1
   ·exact h
  obtain ⟨f1,f2,f3,f4,f5⟩:=heap_flags (hd:=headB ops o.dst) hh
  refine ⟨fun s e=>(by cases e),fun j cs e=>.inr ⟨f1,okr j (List.mem_append.2 (.inl (List.mem_map.2 ⟨_,e,rfl⟩))), .inl hh⟩,fun j X e=>.inr ⟨f5,okr j (List.mem_append.2 (.inr (List.mem_map.2 ⟨_,e,rfl⟩))), .inl hh⟩⟩
theorem may_marks {i:Nat} {o:Oper} {E:Eff} (h:May P T ops base ok i o σ E) (hnt:∃j id,ok j id=false) (hs:isStore (headB ops o.dst) o=true) (hn:storeB o=false):∀j cs,(j,cs)∈E.bx→E.bx = [(j,cs)]∧∃bs,σ.b j=some bs∧cs.map PV.bare=bs.map PV.bare:=by
 rcases h with ⟨-,rfl⟩|⟨-,⟨h1|h1,h2⟩|⟨f,args,r,d,-,-,-,rfl⟩|⟨f,args,given,gm,r,res,rm,k1,k2,k3,k4,k5,rfl,k7⟩|⟨hall,-⟩|⟨f,args,given,gm,r,k1,k2,k3,k4,k5,rfl,k7⟩⟩
 rotate_left 5
 ·obtain ⟨j,id,e⟩:=hnt;rw [hall j id] at e;cases e
 ·exact fun j cs e=>(by cases e)
 ·exact fun j cs e=>(by cases e)
 ·intro j cs e
  obtain ⟨k0,bs,k1,k2⟩:=presE_marks h1 hs hn j cs e
  refine ⟨k0,bs,?_,k2⟩
  simp only [PS.only] at k1
  split at k1
  ·exact k1
  ·cases k1
 ·intro j cs e
  have:=((presM_foot h1).2.1 j cs e).2.1
  rw [hn] at this;cases this
 ·exact fun j cs e=>(by cases e)
 ·have hh:heapB o.op=true:=by
   rcases k7 with k7|k7
   ·exact k7
   ·obtain ⟨j,id,e⟩:=hnt;rw [k7 j id] at e;cases e
  have:=(heap_flags (hd:=headB ops o.dst) hh).2.1
  rw [hn] at this;cases this
theorem takes_sub {hd:Bool} {o:Oper} {s:Nat} (h:s∈takesB hd o):s∈tmpsOf o.op.operands.toList:=by
 obtain ⟨dst,op,ty,pos,after,guard⟩:=o
 simp only [takesB] at h
 simp only [tmpsOf,List.mem_filterMap]
 refine ⟨.tmp s,?_,rfl⟩
 split at h
 ·simp at h;subst h;simp [Op.operands]
 ·simp at h;obtain ⟨-,rfl⟩:=h;simp [Op.operands]
 ·simp at h;subst h;simp [Op.operands]
 ·simp at h;subst h;simp [Op.operands]
 ·simp at h;subst h;simp [Op.operands]
 ·split at h
  ·rename_i hc s' r ha
   simp at h
   subst h
   simp only [Op.operands,Call.operands,Array.toList_append,List.mem_append]
   right
   rw [ha];simp
  ·cases h
 ·cases h
structure Ind (ops:Array Oper) (Sep:Prop) (y x:Oper):Prop where
 d1:∀a b,y.dst=some a→x.dst=some b→a≠b
 d2:∀a,y.dst=some a→a∉tmpsOf x.op.operands.toList∧a∉guardT ops x
 d3:∀b,x.dst=some b→b∉tmpsOf y.op.operands.toList∧b∉guardT ops y
 tk:∀s∈takesB (headB ops y.dst) y,s∉takesB (headB ops x.dst) x
 s1:storeB y=true→usesBox x=true→Sep
 s2:storeB x=true→usesBox y=true→Sep
 s3:isStore (headB ops y.dst) y=true→isStore (headB ops x.dst) x=true→Sep
 m1:mapW (headB ops y.dst) y=true→mapU x=true→False
 m2:mapW (headB ops x.dst) x=true→mapU y=true→False
theorem ind_parts {cl:List (List Nat)} {iy ix:Nat} {y x:Oper} (h:indB ops cl iy ix y x=true):Ind ops (sepB ops.toList cl iy ix y x=true) y x:=by
 simp only [indB,Bool.and_eq_true,Bool.not_eq_true',Bool.or_eq_true (_ && _) (sepB _ _ _ _ _ _)] at h
 obtain ⟨⟨⟨⟨⟨h1,h2⟩,h3⟩,h4⟩,h6⟩,h5⟩:=h
 refine ⟨?_,?_,?_,?_,?_,?_,?_,?_,?_⟩
 ·intro a b ea eb
  rw [ea,eb] at h1
  simpa using h1
 ·intro a ea
  rw [ea] at h2
  simpa using h2
 ·intro a ea
  rw [ea] at h3
  simpa using h3
 ·intro s hs
  have:=List.all_eq_true.1 h4 s hs
  simpa using this
 ·intro e1 e2
  rcases h5 with h5|h5
  ·simp only [e1,e2,Bool.and_eq_true,Bool.not_eq_true',Bool.and_true,Bool.true_and] at h5
   simp at h5
  ·exact h5
 ·intro e1 e2
  rcases h5 with h5|h5
  ·simp only [e1,e2,Bool.and_eq_true,Bool.not_eq_true',Bool.and_true,Bool.true_and] at h5
   simp at h5
  ·exact h5
 ·intro e1 e2
  rcases h5 with h5|h5
  ·simp only [e1,e2,Bool.and_eq_true,Bool.not_eq_true',Bool.and_true,Bool.true_and] at h5
   simp at h5
  ·exact h5
 ·intro e1 e2
  have:=h6.1
  rw [e1,e2] at this;cases this
 ·intro e1 e2
  have:=h6.2
  rw [e1,e2] at this;cases this
theorem PWop.swap {Sep:Prop} {iy ix:Nat} {y x:Oper} (hI:Ind ops Sep y x) (hsep:Sep→∀j,ok iy j=true→ok ix j=true→False) (hne:iy≠ix) (hox:ok ix (base+iy)=false) (hoy:ok iy (base+ix)=false) {K:PS→Prop} (h:PWop P T ops base ok iy y (PWop P T ops base ok ix x K) σ):PWop P T ops base ok ix x (PWop P T ops base ok iy y K) σ:=by
 have hnt:∃j id,ok j id=false:=⟨ix,_,hox⟩
 obtain ⟨Ey,hy,Ex,hx,hk⟩:=h
 obtain ⟨i1,i2,i3,i4,i5,i6,i7,i8,i9⟩:=hI
 obtain ⟨fy1,fy2,fy3⟩:=may_foot hy hnt
 have hx' : May P T ops base ok ix x σ Ex:=by
  refine may_congr hx (fun t ht=>?_) (fun t ht=>?_) (fun s hs=>?_) (fun hu j X hj=>?_) (fun hu j bs hj=>?_) (fun hu j bs hj=>?_) (fun j _ h0=>app_free h0) hnt
  ·exact ((app_t (σ:=σ) (E:=Ey) (fun a ea e=>(i2 a ea).1 (e ▸ ht))).1).symm
  ·exact ((app_t (σ:=σ) (E:=Ey) (fun a ea e=>(i2 a ea).2 (e ▸ ht))).1).symm
  ·exact ((app_t (σ:=σ) (E:=Ey) (fun a ea e=>(i2 a ea).1 (e ▸ takes_sub hs))).2 (fun e=>i4 s (fy1 s e) hs)).symm
  ·simp only [PS.only] at hj ⊢
   split at hj
   ·rename_i hokj
    rw [if_pos hokj,←app_m (σ:=σ) (d:=y.dst) (E:=Ey) j ?_]
    ·exact hj
    ·rintro i cs e rfl
     rcases fy3 i cs e with ⟨rfl,-⟩|⟨h1,h9,-⟩
     ·rw [hox] at hokj;cases hokj
     ·exact i8 h1 hu
   ·cases hj
  ·simp only [PS.only] at hj ⊢
   split at hj
   ·rename_i hokj
    rw [if_pos hokj,←app_b (σ:=σ) (d:=y.dst) (E:=Ey) j ?_]
    ·exact hj
    ·rintro i cs e rfl
     rcases fy2 i cs e with ⟨rfl,-⟩|⟨h1,h9,-⟩
     ·rw [hox] at hokj;cases hokj
     ·exact hsep (i7 h1 hu) _ h9 hokj
   ·cases hj
  ·simp only [PS.only] at hj ⊢
   split at hj
   ·rename_i hokj
    rw [if_pos hokj]
    by_cases hbx:∃cs,(j,cs)∈Ey.bx
    ·obtain ⟨cs,e⟩:=hbx
     rcases fy2 j cs e with ⟨rfl,-⟩|⟨h1,h9,-⟩
     ·rw [hox] at hokj;cases hokj
     ·have hns:storeB y=false:=by
       cases hsb:storeB y with
       |false=>rfl
       |true=>exact (hsep (i5 hsb hu) _ h9 hokj).elim
      obtain ⟨k0,bs0,k1,k2⟩:=may_marks hy hnt h1 hns j cs e
      refine ⟨bs0,k1,?_⟩
      rw [app_one k0,Option.some.injEq] at hj
      rw [←hj];exact k2.symm
    ·refine ⟨bs,?_,rfl⟩
     rw [←app_b (σ:=σ) (d:=y.dst) (E:=Ey) j (fun i cs e hh=>hbx ⟨cs,hh ▸ e⟩)]
     exact hj
   ·cases hj
 obtain ⟨-,fx3,fx4⟩:=may_foot hx' hnt
 have fx1:=(may_foot hx' hnt).1
 have hy' : May P T ops base ok iy y (σ.app x.dst Ex) Ey:=by
  refine may_congr hy (fun t ht=>?_) (fun t ht=>?_) (fun s hs=>?_) (fun hu j X hj=>?_) (fun hu j bs hj=>?_) (fun hu j bs hj=>?_) (fun j hjj h0=>?_) hnt
  ·exact (app_t (σ:=σ) (E:=Ex) (fun a ea e=>(i3 a ea).1 (e ▸ ht))).1
  ·exact (app_t (σ:=σ) (E:=Ex) (fun a ea e=>(i3 a ea).2 (e ▸ ht))).1
  ·exact (app_t (σ:=σ) (E:=Ex) (fun a ea e=>(i3 a ea).1 (e ▸ takes_sub hs))).2 (fun e=>i4 s hs (fx1 s e))
  ·simp only [PS.only] at hj ⊢
   split at hj
   ·rename_i hokj
    rw [if_pos hokj,app_m (σ:=σ) (d:=x.dst) (E:=Ex) j ?_]
    ·exact hj
    ·rintro i cs e rfl
     rcases fx4 i cs e with ⟨rfl,-⟩|⟨h1,h9,-⟩
     ·rw [hoy] at hokj;cases hokj
     ·exact i9 h1 hu
   ·cases hj
  ·simp only [PS.only] at hj ⊢
   split at hj
   ·rename_i hokj
    rw [if_pos hokj,app_b (σ:=σ) (d:=x.dst) (E:=Ex) j ?_]
    ·exact hj
    ·rintro i cs e rfl
     rcases fx3 i cs e with ⟨rfl,-⟩|⟨h1,h9,-⟩
     ·rw [hoy] at hokj;cases hokj
     ·exact hsep (i7 hu h1) _ hokj h9
   ·cases hj
  ·simp only [PS.only] at hj ⊢
   split at hj
   ·rename_i hokj
    rw [if_pos hokj]
    by_cases hbx:∃cs,(j,cs)∈Ex.bx
    ·obtain ⟨cs,e⟩:=hbx
     rcases fx3 j cs e with ⟨rfl,-⟩|⟨h1,h9,-⟩
     ·rw [hoy] at hokj;cases hokj
     ·have hns:storeB x=false:=by
       cases hsb:storeB x with
       |false=>rfl
       |true=>exact (hsep (i6 hsb hu) _ hokj h9).elim
      obtain ⟨k0,bs0,k1,k2⟩:=may_marks hx' hnt h1 hns j cs e
      rw [k1] at hj
      simp only [Option.some.injEq] at hj
      subst hj
      exact ⟨cs,app_one k0,k2⟩
    ·refine ⟨bs,?_,rfl⟩
     rw [app_b (σ:=σ) (d:=x.dst) (E:=Ex) j (fun i cs e hh=>hbx ⟨cs,hh ▸ e⟩)]
     exact hj
   ·cases hj
  ·obtain ⟨q1,q2⟩:=PS.freeB_spec h0
   refine PS.freeB_iff.2 ⟨?_,?_⟩
   ·rw [app_b (σ:=σ) (d:=x.dst) (E:=Ex) j ?_]
    ·exact q1
    ·rintro i cs e rfl
     rcases fx3 _ cs e with ⟨h1,-⟩|⟨h1,h2,-⟩
     ·rcases hjj with h3|⟨-,h3⟩
      ·omega
      ·rw [h1,hoy] at h3;cases h3
     ·rcases hjj with h3|⟨h4,h3⟩
      ·rw [h3,hox] at h2;cases h2
      ·exact hsep (i7 (heap_flags h4).1 h1) _ h3 h2
   ·rw [app_m (σ:=σ) (d:=x.dst) (E:=Ex) j ?_]
    ·exact q2
    ·rintro i cs e rfl
     rcases fx4 _ cs e with ⟨h1,-⟩|⟨h1,h2,-⟩
     ·rcases hjj with h3|⟨-,h3⟩
      ·omega
      ·rw [h1,hoy] at h3;cases h3
     ·rcases hjj with h3|⟨h4,h3⟩
      ·rw [h3,hox] at h2;cases h2
      ·exact i9 h1 (heap_flags (hd:=false) h4).2.2.2.1
 refine ⟨Ex,hx',Ey,hy',?_⟩
 rw [←app_comm σ y.dst x.dst Ey Ex i1 (fun a s ea es e=>(i2 a ea).1 (takes_sub (e ▸ fx1 s es))) (fun a s ea es e=>(i3 a ea).1 (takes_sub (e ▸ fy1 s es))) (fun s t es et e=>i4 s (fy1 s es) (e ▸ fx1 t et)) ?_ ?_]
 ·exact hk
 ·rintro i c j e hi' hj' rfl
  rcases fy2 i c hi' with ⟨e1,-⟩|⟨e1,e2,-⟩
  ·rcases fx3 i e hj' with ⟨e3,-⟩|⟨-,e4,-⟩
   ·omega
   ·rw [e1,hox] at e4;cases e4
  ·rcases fx3 i e hj' with ⟨e3,-⟩|⟨e3,e4,-⟩
   ·rw [e3,hoy] at e2;cases e2
   ·exact hsep (i7 e1 e3) _ e2 e4
 ·rintro i c j e hi' hj' rfl
  rcases fy3 i c hi' with ⟨e1,-⟩|⟨e1,e2,-⟩
  ·rcases fx4 i e hj' with ⟨e3,-⟩|⟨-,e4,-⟩
   ·omega
   ·rw [e1,hox] at e4;cases e4
  ·rcases fx4 i e hj' with ⟨e3,-⟩|⟨e3,e4,-⟩
   ·rw [e3,hoy] at e2;cases e2
   ·exact i8 e1 (mapW_U e3)
end
section
open Go.RowKit
theorem PWop.mono {P:Program} {T:Tab} {σ:PS} {ops:Array Oper} {base:Nat} {ok:Nat→Nat→Bool} {i:Nat} {o:Oper} {K K' : PS→Prop} (hk:∀σ,K σ→K' σ) (h:PWop P T ops base ok i o K σ):PWop P T ops base ok i o K' σ:=by
 obtain ⟨E,h1,h2⟩:=h;exact ⟨E,h1,hk _ h2⟩
theorem PWops.bubble {P:Program} {T:Tab} {ops:Array Oper} {base:Nat} {ok:Nat→Nat→Bool} {cl:List (List Nat)} {ix:Nat} {x:Oper} {post:List (Nat×Oper)} {Q:PS→Prop} : ∀(pre:List (Nat×Oper)) (σ:PS),(∀y∈pre,(indB ops cl y.1 ix y.2 x=true∧(sepB ops.toList cl y.1 ix y.2 x=true→∀j,ok y.1 j=true→ok ix j=true→False))∧y.1≠ix∧ok ix (base+y.1)=false∧ok y.1 (base+ix)=false) →
  PWops P T ops base ok (pre ++ (ix,x) :: post) Q σ→PWops P T ops base ok ((ix,x) :: (pre ++ post)) Q σ
 | [],σ,_,h=>h
 |(iy,y) :: pre,σ,hall,h=>by
  obtain ⟨h1,h2,h3,h4⟩:=hall (iy,y) (by simp)
  have ih:=PWops.bubble (P:=P) (T:=T) (ops:=ops) (base:=base) (ok:=ok) (cl:=cl) (ix:=ix) (x:=x) (post:=post) (Q:=Q) pre
  have:PWop P T ops base ok iy y (PWop P T ops base ok ix x (PWops P T ops base ok (pre ++ post) Q)) σ:=
   PWop.mono (fun σ' h' => ih σ' (fun z hz=>hall z (by simp [hz])) h') h
  exact PWop.swap (ind_parts h1.1) h1.2 h2 h3 h4 this
theorem closB_get:∀(r:List Oper) (acc:List (List Nat)) (i:Nat) (o:Oper),r[i]? = some o→∃acc' : List (List Nat),acc'.length=acc.length+i∧(∀j,j < acc'.length→(closB r acc).getD j []=acc'.getD j [])∧(closB r acc).getD (acc.length+i) []=cloOf acc' o
 | [],acc,i,o,h=>by simp at h
 |p :: r,acc,i,o,h=>by
  have ext:∀(r:List Oper) (acc:List (List Nat)) (j:Nat),j < acc.length→(closB r acc).getD j []=acc.getD j []:=by
   intro r
   induction r with
   |nil=>intro acc j hj;rfl
   |cons q r ih=>
    intro acc j hj
    rw [closB_cons,ih _ _ (by simp;omega)]
    simp [List.getD_eq_getElem?_getD,List.getElem?_append_left hj]
  cases i with
  |zero=>
   simp at h
   subst h
   refine ⟨acc,by simp,fun j hj=>?_,?_⟩
   ·rw [closB_cons,ext _ _ _ (by simp;omega)]
    simp [List.getD_eq_getElem?_getD,List.getElem?_append_left hj]
   ·rw [closB_cons,Nat.add_zero,ext _ _ _ (by simp)]
    simp [List.getD_eq_getElem?_getD]
  |succ i=>
   simp at h
   obtain ⟨acc',h1,h2,h3⟩:=closB_get r (acc ++ [cloOf acc p]) i o h
   refine ⟨acc',by rw [h1];simp;omega,fun j hj=>by rw [closB_cons];exact h2 j hj,?_⟩
   rw [closB_cons,show acc.length+(i+1)=(acc ++ [cloOf acc p]).length+i by simp;omega]
   exact h3
theorem clos_mem {ops:List Oper} {i:Nat} {o:Oper} (ho:ops[i]? = some o) (hlt:∀e∈o.after.toList,Region.binds .any e=true→e.on < i) (k:Nat):k∈(clos ops).getD i []↔∃e∈o.after.toList,Region.binds .any e=true∧(k=e.on∨k∈(clos ops).getD e.on []):=by
 obtain ⟨acc',h1,h2,h3⟩:=closB_get ops [] i o ho
 simp only [List.length_nil,Nat.zero_add] at h1 h3
 unfold clos
 rw [h3,cloOf,mem_foldl_addN,cloF,List.mem_flatMap]
 simp only [List.not_mem_nil,false_or]
 constructor
 ·rintro ⟨e,he,hk⟩
  split at hk
  ·rename_i hb
   refine ⟨e,he,hb,?_⟩
   rw [List.mem_cons] at hk
   rcases hk with hk|hk
   ·exact .inl hk
   ·right;rw [h2 _ (by rw [h1];exact hlt e he hb)];exact hk
  ·cases hk
 ·rintro ⟨e,he,hb,hk⟩
  refine ⟨e,he,?_⟩
  rw [if_pos hb,List.mem_cons]
  rcases hk with hk|hk
  ·exact .inl hk
  ·right;rw [←h2 _ (by rw [h1];exact hlt e he hb)];exact hk
theorem depO_iff {o:Oper} {j:Nat} : depO o j=true↔∃e∈o.after.toList,Region.binds .any e=true∧e.on=j:=by
 simp only [depO,Array.any_eq_true',Bool.and_eq_true,beq_iff_eq]
 constructor
 ·rintro ⟨e,he,h1,h2⟩;exact ⟨e,by simpa using he,h1,h2⟩
 ·rintro ⟨e,he,h1,h2⟩;exact ⟨e,by simpa using he,h1,h2⟩
theorem draw_parts {ops:List Oper} (h:drawB ops=true):(∀(i:Nat) o,ops[i]? = some o→∀e∈o.after.toList,Region.binds .any e=true→e.on < i) ∧
  (∀(i j:Nat) x y,ops[i]? = some x→ops[j]? = some y→j < i→j∈(clos ops).getD i []∨indB ops.toArray (clos ops) j i y x=true):=by
 have hm:∀(i:Nat) o,ops[i]? = some o→(i,o)∈indexed 0 ops:=by
  have:∀(l:List Oper) (k i:Nat) o,l[i]? = some o→(k+i,o)∈indexed k l:=by
   intro l
   induction l with
   |nil=>intro k i o h;simp at h
   |cons p l ih=>
    intro k i o h
    cases i with
    |zero=>simp at h;subst h;simp [indexed]
    |succ i=>
     simp at h
     have:=ih (k+1) i o h
     simp only [indexed,List.mem_cons]
     right
     rw [show k+(i+1)=k+1+i by omega];exact this
  intro i o h
  have:=this ops 0 i o h
  rwa [Nat.zero_add] at this
 simp only [drawB] at h
 have h':=List.all_eq_true.1 h
 refine ⟨fun i o ho e he hb=>?_,fun i j x y hx hy hji=>?_⟩
 ·have:=h' _ (hm i o ho)
  simp only [Bool.and_eq_true] at this
  have:=List.all_eq_true.1 this.1 e he
  simpa [hb] using this
 ·have:=h' _ (hm i x hx)
  simp only [Bool.and_eq_true] at this
  have:=List.all_eq_true.1 this.2 _ (hm j y hy)
  simp only [hji,decide_true,Bool.not_true,Bool.false_or,Bool.or_eq_true,List.contains_iff_mem] at this
  exact this
theorem clos_lt {ops:List Oper} (hE:∀(i:Nat) o,ops[i]? = some o→∀e∈o.after.toList,Region.binds .any e=true→e.on < i):∀(i:Nat) o,ops[i]? = some o→∀k∈(clos ops).getD i [],k < i:=by
 intro i
 induction i using Nat.strongRecOn with
 |_ i ih=>
  intro o ho k hk
  obtain ⟨e,he,hb,hk⟩:=(clos_mem ho (hE i o ho) k).1 hk
  have hlt:=hE i o ho e he hb
  rcases hk with rfl|hk
  ·exact hlt
  ·have hi:i < ops.length:=(List.getElem?_eq_some_iff.1 ho).1
   have:=ih e.on hlt ops[e.on] (by simp) k hk
   omega
theorem clos_listed {ops:List Oper} (hE:∀(i:Nat) o,ops[i]? = some o→∀e∈o.after.toList,Region.binds .any e=true→e.on < i) {listed:Array Bool} (hcl:∀(i:Nat) o,ops[i]? = some o→listed.getD i false=true→∀j,depO o j=true→listed.getD j false=true) :
  ∀(i:Nat) o,ops[i]? = some o→(∀j,depO o j=true→listed.getD j false=true)→∀k∈(clos ops).getD i [],listed.getD k false=true:=by
 intro i
 induction i using Nat.strongRecOn with
 |_ i ih=>
  intro o ho hdep k hk
  obtain ⟨e,he,hb,hk⟩:=(clos_mem ho (hE i o ho) k).1 hk
  have hlt:=hE i o ho e he hb
  have hl:listed.getD e.on false=true:=hdep _ (depO_iff.2 ⟨e,he,hb,rfl⟩)
  rcases hk with rfl|hk
  ·exact hl
  ·have hi:i < ops.length:=(List.getElem?_eq_some_iff.1 ho).1
   have he' : ops[e.on]? = some ops[e.on]:=by simp
   exact ih e.on hlt ops[e.on] he' (hcl e.on _ he' hl) k hk
theorem indexed_sorted:∀(k:Nat) (l:List Oper),(indexed k l).Pairwise (fun a b=>a.1 < b.1)
 |_,[]=>List.Pairwise.nil
 |k,o :: r=>by
  rw [indexed,List.pairwise_cons]
  refine ⟨fun b hb=>?_,indexed_sorted (k+1) r⟩
  have:=(indexed_mem (k+1) r b hb).1
  simp only;omega
end
section
open Go.RowKit
variable {Φ0:Ent} {W:World} {M:Nat} {P:Program} {T:Tab} {ops:List Oper} {base:Nat}
theorem any_sound (hT:T=tabOf P) (hbase:base+ops.toArray.size≤1000000) (hall:∀(j:Nat) o,ops.toArray[j]? = some o→dstB M o=true) (hdraw:drawB ops=true) {Q:PS→Prop} {Q' : Exit→Act→World→Prop} (hQ:∀σ a w,Q σ→Rel Φ0 W M σ a w→Q' .normal a w) {r:Option Nat} :
  ∀(fuel:Nat) (listed:Array Bool) (σ:PS) (a:Act) (w:World),unlisted listed≤fuel→listed.size=ops.length→(∀(i:Nat) o,ops[i]? = some o→listed.getD i false=true→∀j,depO o j=true→listed.getD j false=true) →
   PWops P T ops.toArray base (okR ops base) ((indexed 0 ops).filter fun x => !listed.getD x.1 false) Q σ→Rel Φ0 W M σ a w→wpAnyIn (FW r) 0 P .any ops.toArray Q' fuel listed a w:=by
 obtain ⟨hE,hI⟩:=draw_parts hdraw
 have hsz:∀listed:Array Bool,listed.size=ops.length→listed.size=ops.toArray.size:=fun l h=>by simpa using h
 have fin:∀(listed:Array Bool) (σ:PS) (a:Act) (w:World),listed.size=ops.length→(∀i,i < ops.length→listed.getD i false=true) →
   PWops P T ops.toArray base (okR ops base) ((indexed 0 ops).filter fun x => !listed.getD x.1 false) Q σ→Rel Φ0 W M σ a w→Q' .normal a w:=by
  intro listed σ a w hs hl h hr
  have:((indexed 0 ops).filter fun x => !listed.getD x.1 false) = []:=by
   rw [List.filter_eq_nil_iff]
   intro x hx
   obtain ⟨-,h2⟩:=indexed_mem 0 ops x hx
   have:x.1 < ops.length:=by have:=(List.getElem?_eq_some_iff.1 h2).1;omega
   simp [hl x.1 this]
  rw [this] at h
  exact hQ σ a w h hr
 have alls:∀listed:Array Bool,listed.size=ops.length→Region.ready .any ops.toArray listed = []→∀i,i < ops.length→listed.getD i false=true:=by
  intro listed hs hr i
  induction i using Nat.strongRecOn with
  |_ i ih=>
   intro hi
   have ho:ops.toArray[i]? = some ops[i]:=by simp [hi]
   cases hl:listed.getD i false with
   |true=>rfl
   |false=>
    have:i∈Region.ready .any ops.toArray listed:=(mem_ready (hsz listed hs)).2 ⟨ops[i],ho,hl,fun j hj=>by
     obtain ⟨e,he,hb,rfl⟩:=depO_iff.1 hj
     have:=hE i ops[i] (by simp [hi]) e he hb
     exact ih e.on this (by omega)⟩
    rw [hr] at this;cases this
 intro fuel
 induction fuel with
 |zero=>
  intro listed σ a w hu hs hcl h hr
  have hl:=unlisted_zero (Nat.le_zero.1 hu)
  rw [hs] at hl
  refine ⟨?_,fin listed σ a w hs hl h hr⟩
  apply List.eq_nil_iff_forall_not_mem.2
  intro i hi
  obtain ⟨o,ho,h1,_⟩:=(mem_ready (hsz listed hs)).1 hi
  rw [hl i (by have:=(Array.getElem?_eq_some_iff.1 ho).1;simpa using this)] at h1
  cases h1
 |succ fuel ih=>
  intro listed σ a w hu hs hcl h hr
  refine ⟨fun hrd=>fin listed σ a w hs (alls listed hs hrd) h hr,fun i hi=>?_⟩
  obtain ⟨o,ho,h1,h2⟩:=(mem_ready (hsz listed hs)).1 hi
  have ho' : ops[i]? = some o:=by simpa using ho
  have hil:i < ops.length:=(List.getElem?_eq_some_iff.1 ho').1
  have hmem:(i,o)∈(indexed 0 ops).filter fun x => !listed.getD x.1 false:=by
   rw [List.mem_filter]
   refine ⟨?_,by simp [h1]⟩
   have:∀(l:List Oper) (k i:Nat) o,l[i]? = some o→(k+i,o)∈indexed k l:=by
    intro l
    induction l with
    |nil=>intro k i o h;simp at h
    |cons p l ih=>
     intro k i o h
     cases i with
     |zero=>simp at h;subst h;simp [indexed]
     |succ i=>
      simp at h
      have:=ih (k+1) i o h
      simp only [indexed,List.mem_cons]
      right
      rw [show k+(i+1)=k+1+i by omega];exact this
   have:=this ops 0 i o ho'
   rwa [Nat.zero_add] at this
  obtain ⟨pre,post,hL⟩:=List.append_of_mem hmem
  have hsort:((indexed 0 ops).filter fun x => !listed.getD x.1 false).Pairwise (fun a b=>a.1 < b.1):=(indexed_sorted 0 ops).filter _
  rw [hL] at h hsort
  rw [List.pairwise_append] at hsort
  obtain ⟨-,hs2,hs3⟩:=hsort
  rw [List.pairwise_cons] at hs2
  have hpre:∀y∈pre,y.1 < i:=fun y hy=>hs3 y hy (i,o) (by simp)
  have hpost:∀y∈post,i < y.1:=fun y hy=>hs2.1 y hy
  have hprem:∀y∈pre,ops[y.1]? = some y.2∧listed.getD y.1 false=false:=by
   intro y hy
   have:y∈(indexed 0 ops).filter fun x => !listed.getD x.1 false:=by rw [hL];simp [hy]
   rw [List.mem_filter] at this
   obtain ⟨-,q⟩:=indexed_mem 0 ops y this.1
   exact ⟨by simpa using q,by simpa using this.2⟩
  have hb:=PWops.bubble (P:=P) (T:=T) (base:=base) (ok:=okR ops base) (cl:=clos ops) (ix:=i) (x:=o) (post:=post) (Q:=Q) pre σ (by
   intro y hy
   obtain ⟨q1,q2⟩:=hprem y hy
   have hlt:=hpre y hy
   have hnc:y.1∉(clos ops).getD i []:=fun hc=>by
    rw [clos_listed hE hcl i o ho' h2 y.1 hc] at q2;cases q2
   have hyl:y.1 < ops.length:=(List.getElem?_eq_some_iff.1 q1).1
   refine ⟨⟨by simpa using (hI i y.1 o y.2 ho' q1 hlt).resolve_left hnc,fun hs j hj1 hj2=>sep_ok (ops:=ops) q1 ho' (by simpa using hs) j hj1 hj2⟩,by omega,?_,?_⟩
   ·rw [okR,Bool.and_eq_false_iff];left
    simp only [okD,Bool.or_eq_false_iff,decide_eq_false_iff_not]
    refine ⟨⟨by omega,by omega⟩,?_⟩
    rw [Nat.add_sub_cancel_left]
    simpa using hnc
   ·rw [okR,Bool.and_eq_false_iff];left
    simp only [okD,Bool.or_eq_false_iff,decide_eq_false_iff_not]
    refine ⟨⟨by omega,by omega⟩,?_⟩
    rw [Nat.add_sub_cancel_left]
    have:i∉(clos ops).getD y.1 []:=fun hc=>by have:=clos_lt hE y.1 y.2 q1 i hc;omega
    simpa using this) h
  have hset:listed.getD i false=false:=h1
  have hlt:i < listed.size:=by rw [hs];exact hil
  have hrem:pre ++ post=(indexed 0 ops).filter fun x => !(listed.setIfInBounds i true).getD x.1 false:=by
   have e1:((indexed 0 ops).filter fun x => !(listed.setIfInBounds i true).getD x.1 false)=((indexed 0 ops).filter fun x => !listed.getD x.1 false).filter (fun x => !decide (x.1=i)):=by
    rw [List.filter_filter]
    congr 1
    funext x
    rw [getD_set _ _ _ hlt]
    cases listed.getD x.1 false<;>simp
   rw [e1,hL,List.filter_append,List.filter_cons]
   have e2:pre.filter (fun x => !decide (x.1=i))=pre:=List.filter_eq_self.2 (fun y hy=>by have:=hpre y hy;simp;omega)
   have e3:post.filter (fun x => !decide (x.1=i))=post:=List.filter_eq_self.2 (fun y hy=>by have:=hpost y hy;simp;omega)
   rw [e2,e3]
   simp
  have hcl' : ∀(k:Nat) p,ops[k]? = some p→(listed.setIfInBounds i true).getD k false=true→∀j,depO p j=true→(listed.setIfInBounds i true).getD j false=true:=by
   intro k p hp hk j hj
   rw [getD_set _ _ _ hlt] at hk ⊢
   simp only [Bool.or_eq_true,decide_eq_true_eq] at hk ⊢
   rcases hk with rfl|hk
   ·rw [ho'] at hp;cases hp;exact .inr (h2 j hj)
   ·exact .inr (hcl k p hp hk j hj)
  have hstep:=op_sound (Φ0:=Φ0) (W:=W) (M:=M) hT hall (base:=base) hbase ho (K':=wpAnyIn (FW r) 0 P .any ops.toArray Q' fuel (listed.setIfInBounds i true)) (Q':=Q') (fun σ' a' w' hk hr' => ih (listed.setIfInBounds i true) σ' a' w' (by have:=unlisted_set listed i hlt hset;omega) (by simpa using hs) hcl' (by rw [←hrem];exact hk) hr') hb hr
  unfold wpOpIn
  rw [ho]
  simp only
  split
  ·rename_i hw;rw [if_pos hw] at hstep;exact wpIn_of_wp (dstB_defer (hall i o ho)) hstep
  ·rename_i hw;rw [if_neg hw] at hstep;exact ⟨fun _ _=>trivial,hstep⟩
theorem PW.draw {Q:Exit→PS→Prop} {σ:PS} (hT:T=tabOf P) (hm:P.follows .mixedOrders=true) {id:Nat} (hall2:(ops.all (dstB M) && Nat.ble (1000 * id+ops.length) 1000000)=true) (hd:drawB ops=true)
  (h:PWops P T ops.toArray (1000 * id) (okR ops (1000 * id)) (indexed 0 ops) (Q .normal) σ):PW P M (.region id ops.toArray true) Q σ:=by
 intro Φ0 W a w hr
 have hall2':=hall2
 simp only [Bool.and_eq_true] at hall2'
 obtain ⟨hall,hb0⟩:=hall2'
 have hbase:=Nat.le_of_ble_eq_true hb0
 refine wpIn_region_any hm ?_
 obtain ⟨Φ,μ,ω,hg⟩:=hr
 refine any_sound (Φ0:=Φ0) (W:=W) (M:=M) (base:=1000 * id) (Q:=Q .normal) hT (by simpa using hbase) (by
  intro j o hj
  exact List.all_eq_true.1 hall o (mem_of_get (by simpa using hj))) hd (fun σ a w hq hrel=>⟨_,Φ0,W,hq,Later.refl _ _,hrel⟩) _ _ σ a _ ?_ (by simp) ?_ ?_ ⟨Φ,μ,ω,hg.drew⟩
 ·unfold unlisted
  exact Nat.le_trans List.countP_le_length (by simp)
 ·intro i o ho hl
  simp [Array.getD_eq_getD_getElem?,Array.getElem?_replicate] at hl
  split at hl<;>simp_all
 ·have:((indexed 0 ops).filter fun x => !(Array.replicate ops.toArray.size false).getD x.1 false)=indexed 0 ops:=by
   rw [List.filter_eq_self]
   intro x _
   simp [Array.getD_eq_getD_getElem?,Array.getElem?_replicate]
   split<;>rfl
  rw [this]
  exact h
end
section
open Go.RowKit
theorem sl_eq {n n' k:Nat} {cs cs' : List PV} {o:Option TypeId} (h1:n=n') (h2:cs=cs'):PV.sl n k cs o = .sl n' k cs' o:=by rw [h1,h2]
end
section
open Go.RowKit
variable {P:Program} {M:Nat} {Q:Exit→PS→Prop} {σ:PS} {T:Tab} {ops:Array Oper} {i:Nat} {o:Oper} {rest:List (Nat×Oper)} {K:PS→Prop} {base:Nat} {ok:Nat→Nat→Bool}
theorem pev_only (ok:Nat→Bool) (x:Operand):pev (σ.only ok) x=pev σ x:=by cases x<;>rfl
theorem PWops.valEq {d:Nat} {p q:PV} (hg:pguard ops σ o=some true) (hd:o.dst=some d) (hE:presE T (headB ops o.dst) (base+i) (σ.only (ok i)) o.op=some ⟨p,[],none,[]⟩) (hp:p=q) (hb:σ.freeB (base+i)=true) (k:PWops P T ops base ok rest K (σ.put d q)):PWops P T ops base ok ((i,o) :: rest) K σ:=by
 subst hp
 refine PWops.step hg hE hb ?_
 rw [hd]
 exact k
theorem PWops.bool {d:Nat} {b:Bool} (v:Bool) (hg:pguard ops σ o=some true) (hd:o.dst=some d) (hE:feff (presE T (headB ops o.dst) (base+i) (σ.only (ok i)) o.op)=some (.val (.bool b))) (hv:b=v) (hb:σ.freeB (base+i)=true) (k:PWops P T ops base ok rest K (σ.put d (.val (.bool v)))):PWops P T ops base ok ((i,o) :: rest) K σ:=by
 subst hv
 exact PWops.val hg hd hE hb k
theorem PWops.int {d:Nat} {kk:IntKind} {z:Int} (z' : Int) (hg:pguard ops σ o=some true) (hd:o.dst=some d) (hE:feff (presE T (headB ops o.dst) (base+i) (σ.only (ok i)) o.op)=some (.val (.int kk z))) (hv:z=z') (hb:σ.freeB (base+i)=true) (k:PWops P T ops base ok rest K (σ.put d (.val (.int kk z')))):PWops P T ops base ok ((i,o) :: rest) K σ:=by
 subst hv
 exact PWops.val hg hd hE hb k
theorem wrap64_id {z:Int} (h1 : -9223372036854775808≤z) (h2:z≤9223372036854775807):IntKind.i64.wrap z=z:=IntWalk.i64_in z ⟨h1,h2⟩
theorem PWops.fits {d:Nat} {z:Int} (hg:pguard ops σ o=some true) (hd:o.dst=some d) (hE:feff (presE T (headB ops o.dst) (base+i) (σ.only (ok i)) o.op)=some (.val (.int .i64 (IntKind.i64.wrap z)))) (h1 : -9223372036854775808≤z) (h2:z≤9223372036854775807) (hb:σ.freeB (base+i)=true) (k:PWops P T ops base ok rest K (σ.put d (.val (.int .i64 z)))):PWops P T ops base ok ((i,o) :: rest) K σ:=
 PWops.int z hg hd hE (wrap64_id h1 h2) hb k
def isCmp:Op→Bool
 | .binOp op _ _ _ _=>match op with
  | .eql | .neq | .lss | .leq | .gtr | .geq=>true
  |_=>false
 |_=>false
def isArith:Op→Bool
 | .binOp op _ _ _ _=>match op with
  | .add | .sub | .mul=>true
  |_=>false
 |_=>false
theorem PWops.boolK {d:Nat} {b:Bool} (v:Bool) (hk:isCmp o.op=true) (hg:pguard ops σ o=some true) (hd:o.dst=some d) (hE:feff (presE T (headB ops o.dst) (base+i) (σ.only (ok i)) o.op)=some (.val (.bool b))) (hv:b=v) (hb:σ.freeB (base+i)=true) (k:PWops P T ops base ok rest K (σ.put d (.val (.bool v)))):PWops P T ops base ok ((i,o) :: rest) K σ:=PWops.bool v hg hd hE hv hb k
theorem PWops.fitsK {d:Nat} {z:Int} (hk:isArith o.op=true) (hg:pguard ops σ o=some true) (hd:o.dst=some d) (hE:feff (presE T (headB ops o.dst) (base+i) (σ.only (ok i)) o.op)=some (.val (.int .i64 (IntKind.i64.wrap z)))) (h1 : -9223372036854775808≤z) (h2:z≤9223372036854775807) (hb:σ.freeB (base+i)=true) (k:PWops P T ops base ok rest K (σ.put d (.val (.int .i64 z)))):PWops P T ops base ok ((i,o) :: rest) K σ:=PWops.fits hg hd hE h1 h2 hb k
theorem PWops.idx {d n k j e by_:Nat} {cs zr:List PV} {own:Option TypeId} {kk:IntKind} {x ix:Operand} {t:TypeId} {ti:TyI} (hg:pguard ops σ o=some true) (hd:o.dst=some d) (hop:o.op = .indexAddr t x ix) (hx:pev σ x = .sl n k cs own) (hi:pev σ ix = .val (.int kk (j:Int))) (ht:T.at t=some ti) (hk:ti.kind = .slice e k by_ zr) (hb:σ.freeB (base+i)=true) (hj:j < n)
  (kn:PWops P T ops base ok rest K (σ.put d (.ep cs (j * k)))):PWops P T ops base ok ((i,o) :: rest) K σ:=by
 refine PWops.valEq hg hd (p:=.ep cs (j * k)) ?_ rfl hb kn
 have h1:k=k∧(0:Int)≤(j:Int)∧(j:Int) < (n:Int):=⟨rfl,by omega,by omega⟩
 simp [hop,presE,pvalA,pval,pev_only,hx,hi,ht,hk,pindexAt,h1]
theorem PWops.idx1 {d n j e by_:Nat} {cs zr:List PV} {own:Option TypeId} {kk:IntKind} {x ix:Operand} {t:TypeId} {ti:TyI} (hg:pguard ops σ o=some true) (hd:o.dst=some d) (hop:o.op = .indexAddr t x ix) (hx:pev σ x = .sl n 1 cs own) (hi:pev σ ix = .val (.int kk (j:Int))) (ht:T.at t=some ti) (hk:ti.kind = .slice e 1 by_ zr) (hb:σ.freeB (base+i)=true) (hj:j < n)
  (kn:PWops P T ops base ok rest K (σ.put d (.ep cs j))):PWops P T ops base ok ((i,o) :: rest) K σ:=
 PWops.idx hg hd hop hx hi ht hk hb hj (by rw [Nat.mul_one];exact kn)
theorem PWops.ld {d off:Nat} {cs:List PV} {c q:PV} {x:Operand} {t:TypeId} {ti:TyI} (hg:pguard ops σ o=some true) (hd:o.dst=some d) (hop:o.op = .load t x) (hx:pev σ x = .ep cs off) (ht:T.at t=some ti) (ha:ti.agg=false) (hb:σ.freeB (base+i)=true) (hc:cs[off]? = some c) (hq:fval c.bare=some q)
  (kn:PWops P T ops base ok rest K (σ.put d q)):PWops P T ops base ok ((i,o) :: rest) K σ:=by
 refine PWops.valEq hg hd (p:=c.bare) ?_ (fval_eq hq) hb kn
 simp [hop,presE,ploadO,pvalA,pval,pev_only,hx,ht,ploadAt,asVal,ha,hc]
theorem PWops.ldA {d off m:Nat} {cs row:List PV} {x:Operand} {t:TypeId} {kd:TD} {zr:List PV} {es:List SK} (hg:pguard ops σ o=some true) (hd:o.dst=some d) (hop:o.op = .load t x) (hx:pev σ x = .ep cs off) (ht:T.at t=some ⟨m,true,kd,zr,es⟩) (hb:σ.freeB (base+i)=true) (hl:off+m≤cs.length) (hr:((cs.drop off).take m).map PV.bare=row)
  (kn:PWops P T ops base ok rest K (σ.put d (.agg row))):PWops P T ops base ok ((i,o) :: rest) K σ:=by
 refine PWops.valEq hg hd (p:=.agg (((cs.drop off).take m).map PV.bare)) ?_ (by rw [hr]) hb kn
 simp [hop,presE,ploadO,pvalA,pval,pev_only,hx,ht,ploadAt,asVal,hl]
theorem PWops.app {d s n m k e by_:Nat} {cs ds zr:List PV} {own:Option TypeId} {x:Operand} {t:TypeId} {sz:Nat} {ag:Bool} {zz:List PV} {es:List SK} (hg:pguard ops σ o=some true) (hd:o.dst=some d) (hop:o.op = .call { callee:=.builtin .append,args := #[.tmp s,x],argTypes := #[t,t] }) (hs:σ.t s = .sl n k cs (some e)) (hx:pev σ x = .sl m k ds own) (ht:T.at t=some ⟨sz,ag, .slice e k by_ zr,zz,es⟩) (hb:σ.freeB (base+i)=true) (he:Nat.blt e 1000000=true)
  (h1:(n+m) * by_≤140737488355328) (h2:n+m≤140737488355328) (hone:ds.all PV.one=true) (kn:PWops P T ops base ok rest K ((σ.put s (.sl n k cs none)).put d (.sl (n+m) k (cs ++ ds) (some e)))):PWops P T ops base ok ((i,o) :: rest) K σ:=by
 refine PWops.step hg (E:=⟨.sl (n+m) k (cs ++ ds) (some e),[],some s,[]⟩) ?_ hb ?_
 ·have how:ownPV (σ.only (ok i)) (.tmp s) = .sl n k cs (some e):=hs
  simp [hop,presE,how,pev_only,hx,ht,pappend,asOwn,asSrc,h1,h2,disOf,fullB,(by simpa [Nat.blt_eq] using he:e < 1000000)]
  simpa using hone
 ·rw [hd]
  simp only [PS.app,hs,List.foldl_nil,List.foldl_cons]
  exact kn
theorem PWops.app0 {d s m k e by_:Nat} {ds zr:List PV} {own:Option TypeId} {x:Operand} {t:TypeId} {sz:Nat} {ag:Bool} {zz:List PV} {es:List SK} (hg:pguard ops σ o=some true) (hd:o.dst=some d) (hop:o.op = .call { callee:=.builtin .append,args := #[.tmp s,x],argTypes := #[t,t] }) (hs:σ.t s = .nilsl) (hx:pev σ x = .sl m k ds own) (ht:T.at t=some ⟨sz,ag, .slice e k by_ zr,zz,es⟩) (hb:σ.freeB (base+i)=true) (he:Nat.blt e 1000000=true)
  (h1:m * by_≤140737488355328) (h2:m≤140737488355328) (hone:ds.all PV.one=true) (kn:PWops P T ops base ok rest K ((σ.put s .nilsl).put d (.sl m k ds (some e)))):PWops P T ops base ok ((i,o) :: rest) K σ:=by
 refine PWops.step hg (E:=⟨.sl (0+m) k ([] ++ ds) (some e),[],some s,[]⟩) ?_ hb ?_
 ·have how:ownPV (σ.only (ok i)) (.tmp s) = .nilsl:=hs
  simp [hop,presE,how,pev_only,hx,ht,pappend,asOwn,asSrc,h1,h2,disOf,fullB,(by simpa [Nat.blt_eq] using he:e < 1000000)]
  simpa using hone
 ·rw [hd]
  simp only [PS.app,hs,Nat.zero_add,List.nil_append,List.foldl_nil,List.foldl_cons]
  exact kn
theorem PWops.slc {d n k e by_:Nat} (l h:Nat) {cs zr:List PV} {own:Option TypeId} {x:Operand} {lo hi:Option Operand} {t:TypeId} {ti:TyI} (hg:pguard ops σ o=some true) (hd:o.dst=some d) (hop:o.op = .slice t x lo hi none) (hx:pev σ x = .sl n k cs own) (ht:T.at t=some ti) (hk:ti.kind = .slice e k by_ zr) (hb:σ.freeB (base+i)=true)
  (h1:pbound n n (hi.map (pev σ))=some h) (h2:pbound 0 h (lo.map (pev σ))=some l) (kn:PWops P T ops base ok rest K (σ.put d (.sl (h - l) k ((cs.drop (l * k)).take ((h - l) * k)) none))):PWops P T ops base ok ((i,o) :: rest) K σ:=by
 refine PWops.valEq hg hd (p:=.sl (h - l) k ((cs.drop (l * k)).take ((h - l) * k)) none) ?_ rfl hb kn
 have e1:pev (σ.only (ok i))=pev σ:=funext (pev_only _)
 simp [hop,presE,pvalA,pval,e1,hx,ht,hk,pslice,h1,h2]
theorem PWops.str {d n k e by_:Nat} {zr:List PV} {own:Option TypeId} {bs:List Int} {x:Operand} {ts td:TypeId} {si di ei:TyI} (hg:pguard ops σ o=some true) (hd:o.dst=some d) (hop:o.op = .convert ts td x) (hx:pev σ x = .sl n 1 (bs.map fun b=>.val (.int .u8 b)) own) (hs:T.at ts=some si) (ht:T.at td=some di) (hk1:si.kind = .slice e k by_ zr) (hk2:di.kind = .str) (he:T.at e=some ei) (hke:ei.kind = .int .u8) (hb:σ.freeB (base+i)=true)
  (kn:PWops P T ops base ok rest K (σ.put d (.val (.string (strI bs))))):PWops P T ops base ok ((i,o) :: rest) K σ:=by
 refine PWops.valEq hg hd (p:=.val (.string (strI bs))) ?_ rfl hb kn
 simp [hop,presE,pvalA,pval,pev_only,hx,hs,ht,hk1,hk2,he,hke,pconv,pconvS,bytesOf_map]
theorem low_val (v:Value):Low (.val v)↔True:=⟨fun _=>trivial,fun _=>.val v⟩
theorem low_nilsl:Low .nilsl↔True:=⟨fun _=>trivial,fun _=>.nilsl⟩
theorem low_sl {n k:Nat} {cs:List PV} {own:Option TypeId} : Low (.sl n k cs own)↔∀c∈cs,Low c:=⟨fun h=>by cases h;assumption,fun h=>.sl n k cs own h⟩
theorem low_ep {cs:List PV} {off:Nat} : Low (.ep cs off)↔∀c∈cs,Low c:=⟨fun h=>by cases h;assumption,fun h=>.ep cs off h⟩
theorem low_agg {cs:List PV} : Low (.agg cs)↔∀c∈cs,Low c:=⟨fun h=>by cases h;assumption,fun h=>.agg cs h⟩
theorem low_tup {cs:List PV} : Low (.tup cs)↔∀c∈cs,Low c:=⟨fun h=>by cases h;assumption,fun h=>.tup cs h⟩
theorem low_fn {f:FuncId} {cs:List PV} : Low (.fn f cs)↔∀c∈cs,Low c:=⟨fun h=>by cases h;assumption,fun h=>.fn f cs h⟩
theorem low_pint (z:Int):Low (pint z)↔True:=low_val _
theorem low_pstr (z:ByteArray):Low (pstr z)↔True:=low_val _
theorem low_pbool (z:Bool):Low (pbool z)↔True:=low_val _
theorem low_pints (zs:List Int):Low (pints zs)↔True:=⟨fun _=>trivial,fun _=>.sl _ _ _ _ (fun c hc=>by obtain ⟨z,-,rfl⟩:=List.mem_map.1 hc;exact .val _)⟩
theorem low_pstrs (zs:List ByteArray):Low (pstrs zs)↔True:=⟨fun _=>trivial,fun _=>.sl _ _ _ _ (fun c hc=>by obtain ⟨z,-,rfl⟩:=List.mem_map.1 hc;exact .val _)⟩
theorem map_get {α:Type} {f:α→PV} {l:List α} {j:Nat} {x:α} (h:l[j]? = some x):(l.map f)[j]? = some (f x):=by simp [h]
theorem flatMap_get {α:Type} {f:α→List PV} {k:Nat} (hk:∀x,(f x).length=k):∀{l:List α} {j:Nat} {x:α} {m:Nat} {c:PV},l[j]? = some x→(f x)[m]? = some c→(l.flatMap f)[j * k+m]? = some c
 | [],j,x,m,c,h,_=>by simp at h
 |y :: l,0,x,m,c,h,hc=>by
  simp at h;subst h
  have hm:m < (f y).length:=(List.getElem?_eq_some_iff.1 hc).1
  rw [List.flatMap_cons,Nat.zero_mul,Nat.zero_add,List.getElem?_append_left hm];exact hc
 |y :: l,j+1,x,m,c,h,hc=>by
  simp at h
  rw [List.flatMap_cons,List.getElem?_append_right (by rw [hk,Nat.succ_mul];omega),hk,show (j+1) * k+m - k=j * k+m by rw [Nat.succ_mul];omega]
  exact flatMap_get hk h hc
theorem flatMap_len {α:Type} {f:α→List PV} {k:Nat} (hk:∀x,(f x).length=k):∀(l:List α),(l.flatMap f).length=l.length * k
 | []=>by simp
 |y :: l=>by rw [List.flatMap_cons,List.length_append,hk,flatMap_len hk l,List.length_cons,Nat.succ_mul];omega
theorem flatMap_row {α:Type} {f:α→List PV} {k:Nat} (hk:∀x,(f x).length=k):∀{l:List α} {j:Nat} {x:α},l[j]? = some x→((l.flatMap f).drop (j * k)).take k=f x
 | [],j,x,h=>by simp at h
 |y :: l,0,x,h=>by
  simp at h;subst h
  rw [List.flatMap_cons,Nat.zero_mul,List.drop_zero,List.take_append_of_le_length (by rw [hk];exact Nat.le_refl _),List.take_of_length_le (by rw [hk];exact Nat.le_refl _)]
 |y :: l,j+1,x,h=>by
  simp at h
  rw [List.flatMap_cons,show (j+1) * k=(f y).length+j * k by rw [hk,Nat.succ_mul];omega,List.drop_append]
  simp only [Nat.add_sub_cancel_left]
  rw [List.drop_eq_nil_of_le (by omega),List.nil_append]
  exact flatMap_row hk h
end
section
open Go.RowKit
def pbyte (z:Int):PV:=.val (.int .u8 z)
def pbytes (bs:List Int):PV:=.sl bs.length 1 (bs.map pbyte) none
theorem low_mapI {n k:Nat} {l:List Int} {o:Option TypeId} : Low (.sl n k (l.map pint) o):=.sl _ _ _ _ (fun c hc=>by obtain ⟨z,-,rfl⟩:=List.mem_map.1 hc;exact .val _)
theorem low_mapS {n k:Nat} {l:List ByteArray} {o:Option TypeId} : Low (.sl n k (l.map pstr) o):=.sl _ _ _ _ (fun c hc=>by obtain ⟨z,-,rfl⟩:=List.mem_map.1 hc;exact .val _)
theorem low_mapB {n k:Nat} {l:List Int} {o:Option TypeId} : Low (.sl n k (l.map pbyte) o):=.sl _ _ _ _ (fun c hc=>by obtain ⟨z,-,rfl⟩:=List.mem_map.1 hc;exact .val _)
theorem one_pint (l:List Int):(l.map pint).all PV.one=true:=by rw [List.all_map,List.all_eq_true];intro x _;rfl
theorem one_pstr (l:List ByteArray):(l.map pstr).all PV.one=true:=by rw [List.all_map,List.all_eq_true];intro x _;rfl
theorem one_pbyte (l:List Int):(l.map pbyte).all PV.one=true:=by rw [List.all_map,List.all_eq_true];intro x _;rfl
theorem low_pbyte (z:Int):Low (pbyte z)↔True:=low_val _
theorem low_pbytes (zs:List Int):Low (pbytes zs)↔True:=⟨fun _=>trivial,fun _=>.sl _ _ _ _ (fun c hc=>by obtain ⟨z,-,rfl⟩:=List.mem_map.1 hc;exact .val _)⟩
theorem PW.condT {P:Program} {M:Nat} {Q:Exit→PS→Prop} {σ:PS} {c:Operand} {x y:Code} (hc:pev σ c = .val (.bool true)) (h:PW P M x Q σ):PW P M (.cond c x y) Q σ:=PW.cond hc (fun _=>h) (fun e=>by cases e)
theorem PW.condF {P:Program} {M:Nat} {Q:Exit→PS→Prop} {σ:PS} {c:Operand} {x y:Code} (hc:pev σ c = .val (.bool false)) (h:PW P M y Q σ):PW P M (.cond c x y) Q σ:=PW.cond hc (fun e=>by cases e) (fun _=>h)
def pbytesO (zs:List Int):PV:=.sl zs.length 1 (zs.map pbyte) (some 5)
end
section
open Go.RowKit
variable {Φ:Imm} {μ:Nat→Option Nat} {w:World} (himm:∀b o u,Φ b o=some u→w.cell? ⟨b,o,none⟩=some u)
include himm
theorem post_flat {w' : World} {post:PV→Prop} {r:PV} {v:Value} (hr:Rep Φ mu0 r v) (hf:r.ownB=false) (hp:post r) (hb:Below w.heap.size w w'):CallPost Φ w post (.returned v) w':=by
 refine ⟨r,v,Φ,rfl,hp,hr,fun b o u e=>below_cell hb (himm b o u e),fun _ _ _=>rfl,hb,fun n k cs E e=>?_⟩
 rw [e] at hf;simp [PV.ownB] at hf
theorem own_rep {w' : World} {E:TypeId} {v:Value} {α:Type} {f:α→Value} {l:List α} (hplain:∀x,plainV (f x)=true) (ho:Own w.heap.size E w' v (l.map f)) (hb:Below w.heap.size w w') (hE:E < 1000000:=by decide) :
  ∃Φ' : Imm,(∀b o u,Φ' b o=some u→w'.cell? ⟨b,o,none⟩=some u)∧(∀b o,b < w.heap.size→Φ' b o=Φ b o)∧Rep Φ' mu0 (.sl l.length 1 (l.map fun x=>.val (f x)) (some E)) v∧OwnAt (fun g=>w.heap.size≤g) Φ' (fun _=>some (.tmp 0)) w' (.tmp 0) l.length 1 E v:=by
 have himm' : ∀b o u,Φ b o=some u→w'.cell? ⟨b,o,none⟩=some u:=fun b o u e=>below_cell hb (himm b o u e)
 have hfr:∀b o u,Φ b o=some u→b < w.heap.size:=fun b o u e=>World.block_lt_of_cell? _ _ (himm b o u e)
 rcases ho.2 with ⟨rfl,hn⟩|⟨g,cap,cur,rfl,hBg,hgg,hc,hm,hs,ht⟩
 ·have hl:l = []:=List.eq_nil_of_length_eq_zero (by simpa using hn)
  subst hl
  exact ⟨Φ,himm',fun _ _ _=>rfl, .sl0 _ _ _ _ (by unfold maxLen;omega), .inl ⟨rfl,rfl⟩⟩
 ·simp only [List.length_map,Nat.mul_one] at hc ht hs
  refine ⟨fun b o=>if b=g then (l.map f)[o]? else Φ b o,?_,?_,?_,?_⟩
  ·intro b o u e
   by_cases hbg:b=g
   ·subst hbg
    simp only [if_true] at e
    rw [←ht,List.getElem?_take] at e
    split at e
    ·simp only [World.cell?,hgg];simpa using e
    ·cases e
   ·simp only [if_neg hbg] at e;exact himm' b o u e
  ·intro b o hbo;simp only;rw [if_neg (by omega)]
  ·have hlen:(Value.slice (some ⟨g,0,none⟩) (l.map f).length cap) = .slice (some ⟨g,0,none⟩) l.length cap:=by simp
   rw [hlen]
   refine .sl _ _ _ _ g 0 cap (fun j=>((l.map f)[j]?).getD undef) (by simp) hc hm (fun j hj=>?_) (fun j c hcj=>?_)
   ·have hj' : j < l.length:=by simpa using hj
    simp [hj']
   ·rw [List.getElem?_map] at hcj
    obtain ⟨x,hx,rfl⟩:=Option.map_eq_some_iff.1 hcj
    simp only [List.getElem?_map,hx,Option.map_some,Option.getD_some]
    exact .val _ (hplain x)
  ·refine .inr (.inl ⟨g,cap,cur,by simp,hBg,hgg,hc,hm,by simpa using hs,rfl,hE,fun j hj=>?_⟩)
   simp only [if_true]
   rw [List.getElem?_eq_none (by simp;omega)]
theorem post_own {w' : World} {E:TypeId} {v:Value} {α:Type} {f:α→Value} {l:List α} (hplain:∀x,plainV (f x)=true) (ho:Own w.heap.size E w' v (l.map f)) (hb:Below w.heap.size w w') (hE:E < 1000000:=by decide):CallPost Φ w (· = .sl l.length 1 (l.map fun x=>.val (f x)) (some E)) (.returned v) w':=by
 obtain ⟨Φ',h1,h2,h3,h4⟩:=own_rep himm hplain ho hb hE
 refine ⟨_,v,Φ',rfl,rfl,h3,h1,h2,hb,fun n k cs E' e=>?_⟩
 cases e
 exact h4
end
section
open Go.RowKit
theorem pcalls1 {P:Program} {f:FuncId} {p:PV} {post:PV→Prop} (hc:callB P f=true) (h:∀(Φ:Imm) (μ:Nat→Option Nat) (w:World) (v:Value),(∀b o u,Φ b o=some u→w.cell? ⟨b,o,none⟩=some u)→Rep Φ μ p v→Calls P f #[v] w (CallPost Φ w post)):PCalls P f [p] post:=by
 refine ⟨hc,fun Φ μ w vs himm hgl hr=>?_⟩
 match vs,hr with
 | [v],hr=>exact h Φ μ w v himm (hr.2 0 _ _ rfl rfl)
 | [],hr=>exact absurd hr.1 (by simp)
 |_ :: _ :: _,hr=>exact absurd hr.1 (by simp)
end
section
open Go.ChangeShapes Go.WideShapes Go.ChangeAt Go.RowKit
def immW (W:World):Imm:=fun b o=>W.cell? ⟨b,o,none⟩
theorem RepL.append {Φ:Imm} {μ:Nat→Option Nat} {cs ds:List PV} {us vs:List Value} (h:RepL Φ μ cs us) (k:RepL Φ μ ds vs):RepL Φ μ (cs ++ ds) (us ++ vs):=by
 refine ⟨by simp [h.1,k.1],fun j c u h1 h2=>?_⟩
 by_cases hj:j < cs.length
 ·rw [List.getElem?_append_left hj] at h1
  rw [List.getElem?_append_left (by rw [h.1];exact hj)] at h2
  exact h.2 j c u h1 h2
 ·rw [List.getElem?_append_right (by omega)] at h1
  rw [List.getElem?_append_right (by rw [h.1];omega),h.1] at h2
  exact k.2 _ c u h1 h2
def Opens (P:Program) (t:TypeId) {α:Type} (en:α→List PV) (ok:α→Prop):Prop:=
 ∀(H:Type) (enc:TypeId×Value→H) (W:World) (fuel:Nat) (cs:List Value) (d:DataW H) (pl:List MemPlace),
  DataW.trod enc P W 0 (fun _=>true) true fuel t cs=some (d,pl)→(∀n∈d.weights P t,n≤reachBytes)→∃y:α,ok y∧RepL (immW W) mu0 (en y) cs
end
section
open Go.ChangeShapes Go.WideShapes Go.ChangeAt Go.RowKit
variable {P:Program} {t e:TypeId}
theorem Opens.map {α β:Type} {en:α→List PV} {ok:α→Prop} (h:Opens P t en ok) (g:α→β) {en' : β→List PV} {ok' : β→Prop} (hen:∀a,ok a→en' (g a)=en a) (hok:∀a,ok a→ok' (g a)):Opens P t en' ok':=by
 intro H enc W fuel cs d pl h1 h2
 obtain ⟨y,k1,k2⟩:=h H enc W fuel cs d pl h1 h2
 exact ⟨g y,hok y k1,by rw [hen y k1];exact k2⟩
theorem opens_int {k:IntKind} (ht:P.underlying t=some (.int k)):Opens P t (fun z:Int => [.val (.int k z)]) (fun z=>(Lit.int k z).wf=true):=by
 intro H enc W fuel cs d pl h hw
 obtain ⟨n,rfl,hx,hwf⟩:=DataW.trod_int ht h
 exact ⟨n,hwf,RepL.cons (.val _ rfl) RepL.nil⟩
theorem weights_mem {H:Type} {e:TypeId} : ∀{l:List (DataW H)} {d:DataW H},d∈l→∀n∈d.weights P e,n∈DataW.weightsAll P e l
 |x :: l,d,h,n,hn=>by
  rw [DataW.weightsAll,List.mem_append]
  rcases List.mem_cons.1 h with rfl|h
  ·exact .inl hn
  ·exact .inr (weights_mem h n hn)
theorem open_elems {α:Type} {en:α→List PV} {ok:α→Prop} {k b:Nat} (ht:P.underlying t=some (.slice e)) (hc:P.cellsOf e=k) (hk:0 < k) (hb:P.bytesOf e=b) (hlen:∀x,ok x→(en x).length=k)
  {H:Type} {enc:TypeId×Value→H} {W:World} {fuel:Nat} {cs:List Value} {d:DataW H} {pl:List MemPlace} (he:∀(n:Nat) (us:List Value) (D:DataW H) (Pl:List MemPlace),(∃l r,d = .slice l r∧D∈l)→DataW.trod enc P W 0 (fun _=>true) true n e us=some (D,Pl)→(∀x∈D.weights P e,x≤reachBytes)→∃y:α,ok y∧RepL (immW W) mu0 (en y) us)
  (h:DataW.trod enc P W 0 (fun _=>true) true fuel t cs=some (d,pl)) (hw:∀n∈d.weights P t,n≤reachBytes):∃xs:List α,((∀x∈xs,ok x)∧xs.length * b≤reachBytes)∧RepL (immW W) mu0 [.sl xs.length k (xs.flatMap en) none] cs:=by
 rcases Deep.open_slice ht h with ⟨rfl,hx⟩|⟨a,len,cap,m,n,D,Pl,rfl,-,hl,hm,hmm,hx,hel⟩
 ·exact ⟨[],⟨by simp,by simp⟩,RepL.cons (.sl0 _ _ _ _ (by unfold maxLen;omega)) RepL.nil⟩
 ·simp only [if_true] at hmm
  subst hmm
  cases hx
  have hall:∀i,i < len→∃y:α,ok y∧∃us,W.cells? 0 (a.add (i * P.cellsOf e)) (P.cellsOf e)=some us∧RepL (immW W) mu0 (en y) us:=by
   intro i hi
   obtain ⟨us,h1,h2⟩:=hel i (by omega)
   obtain ⟨y,k1,k2⟩:=he n us (D i) (Pl i) ⟨_,_,rfl,List.mem_map.2 ⟨i,by simpa using hi,rfl⟩⟩ h2 (fun x hx=>by
    refine hw x ?_
    simp only [DataW.weights,ht,List.mem_cons,List.mem_append]
    exact .inr (.inl (weights_mem (List.mem_map.2 ⟨i,by simpa using hi,rfl⟩) x hx)))
   exact ⟨y,k1,us,h1,k2⟩
  have:∃xs:List α,xs.length=len∧∀i x,xs[i]? = some x→ok x∧∃us,W.cells? 0 (a.add (i * P.cellsOf e)) (P.cellsOf e)=some us∧RepL (immW W) mu0 (en x) us:=by
   have key:∀j,j≤len→∃xs:List α,xs.length=j∧∀i x,xs[i]? = some x→ok x∧∃us,W.cells? 0 (a.add (i * P.cellsOf e)) (P.cellsOf e)=some us∧RepL (immW W) mu0 (en x) us:=by
    intro j
    induction j with
    |zero=>exact fun _=>⟨[],rfl,fun i x hx=>by simp at hx⟩
    |succ j ih=>
     intro hj
     obtain ⟨xs,h1,h2⟩:=ih (by omega)
     obtain ⟨y,k1,k2⟩:=hall j (by omega)
     refine ⟨xs ++ [y],by simp [h1],fun i x hx=>?_⟩
     by_cases hi:i < j
     ·rw [List.getElem?_append_left (by omega)] at hx;exact h2 i x hx
     ·rw [List.getElem?_append_right (by omega)] at hx
      have h0:i - xs.length=0:=by
       have:=(List.getElem?_eq_some_iff.1 hx).1
       simp at this;omega
      rw [h0] at hx;simp at hx;subst hx
      obtain rfl:i=j:=by omega
      exact ⟨k1,k2⟩
   exact key len (Nat.le_refl _)
  obtain ⟨xs,hxl,hxs⟩:=this
  refine ⟨xs,⟨fun x hx=>?_,?_⟩,RepL.cons ?_ RepL.nil⟩
  ·obtain ⟨i,hi⟩:=List.getElem?_of_mem hx
   exact (hxs i x hi).1
  ·have hw1:=hw (((List.range len).map D).length * P.bytesOf e+((List.range (m - len)).map fun j=>D (len+j)).length * P.bytesOf e) (by
    simp only [DataW.weights,ht,List.mem_cons,List.mem_append,Nat.add_mul]
    exact .inl trivial)
   simp only [List.length_map,List.length_range,hb] at hw1
   rw [hxl];omega
  ·by_cases h0:len=0
   ·subst h0
    obtain rfl:xs = []:=List.eq_nil_of_length_eq_zero hxl
    exact .sl0 _ _ _ _ hm
   ·obtain ⟨bl,off,spot⟩:=a
    have hfl:(xs.flatMap en).length=len * k:=by
     rw [←hxl]
     have:∀(l:List α),(∀x∈l,(en x).length=k)→(l.flatMap en).length=l.length * k:=by
      intro l
      induction l with
      |nil=>simp
      |cons x l ih=>intro h;rw [List.flatMap_cons,List.length_append,h x (by simp),ih (fun y hy=>h y (by simp [hy])),List.length_cons,Nat.succ_mul];omega
     exact this xs (fun x hx=>by
      obtain ⟨i,hi⟩:=List.getElem?_of_mem hx
      exact hlen x (hxs i x hi).1)
    have hcell:∀i r,i < len→r < k→∃x u,xs[i]? = some x∧W.cell? (Addr.add (Addr.add ⟨bl,off,spot⟩ (i * k)) r)=some u∧∀c,(en x)[r]? = some c→Rep (immW W) mu0 c u:=by
     intro i r hi hr
     have hix:i < xs.length:=by omega
     obtain ⟨k1,us,k2,k3⟩:=hxs i xs[i] (by simp [hix])
     obtain ⟨-,q2,q3⟩:=World.cells?_some k2
     rw [hc] at q2 q3
     have hru:r < us.length:=by omega
     refine ⟨xs[i],us[r],by simp [hix],by rw [q3 r hr];simp [hru],fun c hcc=>k3.2 r c _ hcc (by simp [hru])⟩
    have hspot:spot=none:=by
     obtain ⟨x,u,-,h2,-⟩:=hcell 0 0 (by omega) hk
     have:=World.cell?_spot h2
     simpa [Addr.add] using this
    subst hspot
    rw [←hxl]
    refine .sl xs.length k _ none bl off m (fun j=>(W.cell? ⟨bl,off+j,none⟩).getD undef) (by rw [hfl,hxl]) (by omega) hm (fun j hj=>?_) (fun j c hj=>?_)
    ·rw [hfl] at hj
     have hq:j / k < len:=by rw [Nat.div_lt_iff_lt_mul hk];exact hj
     obtain ⟨x,u,-,h2,-⟩:=hcell (j / k) (j % k) hq (Nat.mod_lt _ hk)
     rw [Addr.add_lit,Addr.add_lit,Nat.add_assoc,Nat.mul_comm,Nat.div_add_mod] at h2
     simp only [immW,h2,Option.getD_some]
    ·have hjl:=(List.getElem?_eq_some_iff.1 hj).1
     rw [hfl] at hjl
     have hq:j / k < len:=by rw [Nat.div_lt_iff_lt_mul hk];exact hjl
     obtain ⟨x,u,h1,h2,h3⟩:=hcell (j / k) (j % k) hq (Nat.mod_lt _ hk)
     rw [Addr.add_lit,Addr.add_lit,Nat.add_assoc,Nat.mul_comm,Nat.div_add_mod] at h2
     rw [h2,Option.getD_some]
     refine h3 c ?_
     have hxk:∀x∈xs,(en x).length=k:=fun x hx=>by
      obtain ⟨i,hi⟩:=List.getElem?_of_mem hx
      exact hlen x (hxs i x hi).1
     have gen:∀(l:List α) (i r:Nat) (x:α),(∀x∈l,(en x).length=k)→l[i]? = some x→r < k→(l.flatMap en)[i * k+r]? = (en x)[r]?:=by
      intro l
      induction l with
      |nil=>intro i r x _ h;simp at h
      |cons y l ih=>
       intro i r x hl h hr
       rw [List.flatMap_cons]
       cases i with
       |zero=>
        simp at h;subst h
        rw [Nat.zero_mul,Nat.zero_add,List.getElem?_append_left (by rw [hl y (by simp)];exact hr)]
       |succ i=>
        simp at h
        have:=ih i r x (fun z hz=>hl z (by simp [hz])) h hr
        rw [List.getElem?_append_right (by rw [hl y (by simp),Nat.succ_mul];omega),hl y (by simp),←this]
        congr 1
        rw [Nat.succ_mul];omega
     rw [←gen xs (j / k) (j % k) x hxk h1 (Nat.mod_lt _ hk),Nat.mul_comm,Nat.div_add_mod]
     exact hj
theorem opens_slice {α:Type} {en:α→List PV} {ok:α→Prop} {k b:Nat} (ht:P.underlying t=some (.slice e)) (hc:P.cellsOf e=k) (hk:0 < k) (hb:P.bytesOf e=b) (he:Opens P e en ok) (hlen:∀x,ok x→(en x).length=k) :
  Opens P t (fun xs:List α => [.sl xs.length k (xs.flatMap en) none]) (fun xs=>(∀x∈xs,ok x)∧xs.length * b≤reachBytes):=
 fun H enc W _ _ _ _ h hw=>open_elems ht hc hk hb hlen (fun n us D Pl _ h1 h2=>he H enc W n us D Pl h1 h2) h hw
def OpensFs (P:Program) (fs:List Field) (o m:Nat) {α:Type} (en:α→List PV) (ok:α→Prop):Prop:=
 ∀(H:Type) (enc:TypeId×Value→H) (W:World) (n:Nat) (cs:List Value) (xs:List (DataW H×List MemPlace)),xs.length=fs.length→(∀(i:Nat) (f:Field),fs[i]? = some f→DataW.trod enc P W 0 (fun _=>true) true n f.type ((cs.drop f.offset).take (P.cellsOf f.type))=xs[i]?) →
  (∀k∈DataW.weightsEach P (fs.map (·.type)) (xs.map (·.1)),k≤reachBytes)→∃y:α,ok y∧RepL (immW W) mu0 (en y) ((cs.drop o).take m)
theorem opensFs_nil {o:Nat} : OpensFs P [] o 0 (fun _:Unit => []) (fun _=>True):=by
 intro H enc W n cs xs _ _ _
 exact ⟨(),trivial,by simpa using RepL.nil⟩
theorem opensFs_cons {f:Field} {fs:List Field} {o k m:Nat} {α β:Type} {en1:α→List PV} {ok1:α→Prop} {en2:β→List PV} {ok2:β→Prop} (ho:f.offset=o) (hk:P.cellsOf f.type=k) (h1:Opens P f.type en1 ok1) (h2:OpensFs P fs (o+k) m en2 ok2) :
  OpensFs P (f :: fs) o (k+m) (fun p:α×β=>en1 p.1 ++ en2 p.2) (fun p=>ok1 p.1∧ok2 p.2):=by
 intro H enc W n cs xs hl hx hw
 cases xs with
 |nil=>simp at hl
 |cons x xs=>
  have e0:=hx 0 f rfl
  rw [ho,hk] at e0
  obtain ⟨y,k1,k2⟩:=h1 H enc W n _ x.1 x.2 e0 (fun z hz=>hw z (by simp only [List.map_cons,DataW.weightsEach,List.mem_append];exact .inl hz))
  obtain ⟨z,k3,k4⟩:=h2 H enc W n cs xs (by simpa using hl) (fun i g hg=>by have:=hx (i+1) g (by simpa using hg);simpa using this) (fun z hz=>hw z (by simp only [List.map_cons,DataW.weightsEach,List.mem_append];exact .inr hz))
  refine ⟨(y,z),⟨k1,k3⟩,?_⟩
  rw [List.take_add,List.drop_drop]
  exact k2.append k4
theorem opensFs_1 {f:Field} {fs:List Field} {o m:Nat} {α β:Type} {en1:α→List PV} {ok1:α→Prop} {en2:β→List PV} {ok2:β→Prop} (ho:f.offset=o) (h1:Opens P f.type en1 ok1) (hk:P.cellsOf f.type=1) (h2:OpensFs P fs (o+1) m en2 ok2) :
  OpensFs P (f :: fs) o (m+1) (fun p:α×β=>en1 p.1 ++ en2 p.2) (fun p=>ok1 p.1∧ok2 p.2):=by
 rw [Nat.add_comm m 1];exact opensFs_cons ho hk h1 h2
theorem opens_struct {fs:Array Field} {m:Nat} {α:Type} {en:α→List PV} {ok:α→Prop} (ht:P.underlying t=some (.struct fs)) (hf:OpensFs P fs.toList 0 m en ok) (hc:P.cellsOf t=m):Opens P t en ok:=by
 intro H enc W fuel cs d pl h hw
 obtain ⟨xs,n,rfl,hx,h3,h4,h5⟩:=DataW.trod_struct ht h
 cases hx
 obtain ⟨y,k1,k2⟩:=hf H enc W n cs xs (by simpa using h4) (fun i f hf=>h5 i f (by simpa using hf)) (fun z hz=>hw z (by simpa only [DataW.weights,ht] using hz))
 refine ⟨y,k1,?_⟩
 rwa [List.drop_zero,List.take_of_length_le (by omega)] at k2
def ArgOpens (P:Program) (t:TypeId) {α:Type} (pe:α→PV) (ok:α→Prop):Prop:=
 ∀(H:Type) (enc:TypeId×Value→H) (W:World) (base:Nat) (v:Value) (d:DataW H) (pl:List MemPlace),Value.okWide P W .any base t v→DataW.Trod enc P W 0 (fun _=>true) true t v d pl→(∀n∈d.weights P t,n≤reachBytes)→∃y:α,ok y∧Rep (immW W) mu0 (pe y) v
theorem repL_one1 {Φ:Imm} {μ:Nat→Option Nat} {p:PV} {v:Value} (h:RepL Φ μ [p] [v]):Rep Φ μ p v:=h.2 0 p v rfl rfl
theorem arg_int {k:IntKind} (ht:P.underlying t=some (.int k)):ArgOpens P t (fun z:Int=>.val (.int k z)) (fun z=>(Lit.int k z).wf=true):=by
 intro H enc W base v d pl hv ⟨fuel,h⟩ hw
 obtain ⟨z,rfl⟩:=okWide_int ht hv
 obtain ⟨y,k1,k2⟩:=opens_int ht H enc W fuel _ d pl h hw
 exact ⟨y,k1,repL_one1 k2⟩
theorem arg_struct {fs:Array Field} {α:Type} {en:α→List PV} {ok:α→Prop} (ht:P.underlying t=some (.struct fs)) (h0:Opens P t en ok):ArgOpens P t (fun x=>.agg (en x)) ok:=by
 intro H enc W base v d pl hv ⟨fuel,h⟩ hw
 obtain ⟨cs,rfl,-⟩:=okWide_struct ht hv
 obtain ⟨y,k1,k2⟩:=h0 H enc W fuel _ d pl h hw
 refine ⟨y,k1,?_⟩
 have:=k2.agg
 simpa [Value.cells] using this
theorem ArgOpens.map {α β:Type} {pe:α→PV} {ok:α→Prop} (h:ArgOpens P t pe ok) (g:α→β) {pe' : β→PV} {ok' : β→Prop} (hen:∀a,ok a→pe' (g a)=pe a) (hok:∀a,ok a→ok' (g a)):ArgOpens P t pe' ok':=by
 intro H enc W base v d pl h0 h1 h2
 obtain ⟨y,k1,k2⟩:=h H enc W base v d pl h0 h1 h2
 exact ⟨g y,hok y k1,by rw [hen y k1];exact k2⟩
def ArgsOpen (P:Program) (ts:List TypeId) {α:Type} (en:α→List PV) (ok:α→Prop):Prop:=
 ∀(H:Type) (enc:TypeId×Value→H) (W:World) (base:Nat) (vs:List Value) (ds:List (DataW H)) (pl:List MemPlace),(∀(j:Nat) t v,ts[j]? = some t→vs[j]? = some v→Value.okWide P W .any base t v)→DataW.TrodAll enc P W 0 (fun _=>true) true ts vs ds pl →
  (∀n∈DataW.weightsEach P ts ds,n≤reachBytes)→ds.length=ts.length∧∃y:α,ok y∧RepL (immW W) mu0 (en y) vs
theorem argsOpen_nil:ArgsOpen P [] (fun _:Unit => []) (fun _=>True):=by
 intro H enc W base vs ds pl _ h _
 obtain ⟨rfl,rfl,rfl⟩:=trodAll_nil h
 exact ⟨rfl,(),trivial,RepL.nil⟩
theorem argsOpen_cons {ts:List TypeId} {α β:Type} {pe:α→PV} {ok1:α→Prop} {en:β→List PV} {ok2:β→Prop} (h1:ArgOpens P t pe ok1) (h2:ArgsOpen P ts en ok2):ArgsOpen P (t :: ts) (fun p:α×β=>pe p.1 :: en p.2) (fun p=>ok1 p.1∧ok2 p.2):=by
 intro H enc W base vs ds pl hv h hw
 match vs,ds,h with
 |v :: vs,d :: ds,h=>
  obtain ⟨p,q,g1,g2,-⟩:=h
  obtain ⟨y,k1,k2⟩:=h1 H enc W base v d p (hv 0 t v rfl rfl) g1 (fun z hz=>hw z (by simp only [DataW.weightsEach,List.mem_append];exact .inl hz))
  obtain ⟨hl,z,k3,k4⟩:=h2 H enc W base vs ds q (fun j t v e1 e2=>hv (j+1) t v (by simpa using e1) (by simpa using e2)) g2 (fun z hz=>hw z (by simp only [DataW.weightsEach,List.mem_append];exact .inr hz))
  exact ⟨by simp [hl],(y,z),⟨k1,k3⟩,RepL.cons k2 k4⟩
 | [],[],h=>simp [DataW.TrodAll] at h
 | [],_ :: _,h=>simp [DataW.TrodAll] at h
 |_ :: _,[],h=>simp [DataW.TrodAll] at h
end
section
open Go.ChangeShapes Go.WideShapes Go.ChangeAt Go.RowKit
set_option maxRecDepth 100000 in
theorem law_liftedL {f:FuncId} {fn:Func} {s:ChangeSpec} {conds:List PathCond} {tb:TypeId} {α:Type} {en:α→List PV} {ok:α→Prop} {laid:List (String×DataW Unit)} (os:Os) (started:os.Started) (H:Type) (enc:TypeId×Value→H) (hfn:Tryd.checked.prog.funcs[f]? = some fn) (noInit:Tryd.checked.prog.inits.idxOf? f=none)
  (witness:∃(w:World) (tape:Tape) (i:Input),w.os=os∧(w.forCall tape i).Shaped Tryd.checked.prog∧i.vars = []∧Input.okWide Tryd.checked.prog (w.forCall tape i) .any w.heap.size f i ∧
   ((s.pre enc Tryd.checked.prog fn conds false (w.forCall tape i).memory i.args∧laidMetH Tryd.prog laid (w.forCall tape i).memory)∧sizedMet enc Tryd.checked.prog fn (OpenSpec.ofChange s) false (w.forCall tape i).memory i.args)∧({} : Assume).holds Tryd.checked.prog (lone (Frame.enter Tryd.checked.prog f i.args .normal) [] (w.forCall tape i)))
  (htb:Tryd.prog.underlying tb=some .bool) (hres:fn.resultTypes = #[tb]) (hvars:s.vars = []) (hread:fn.params.toList.all (fun t=>Tryd.prog.readableRec t && decide (t < Tryd.prog.types.size))=true)
  (hspec:∀ds:List (DataW H),ds.length=fn.params.size→(s.fn H (ds ++ [])).results = [.lit (.bool true)]∧(s.fn H (ds ++ [])).args=ds∧(s.fn H (ds ++ [])).vars = [])
  (hargs:ArgsOpen Tryd.prog fn.params.toList en ok) (hc:∀y,ok y→PCalls Tryd.prog f (en y) (· = pbool true))
  (hglob:∀W,laidMetH Tryd.prog laid W→∀x∈globTab,∀j z,x.2.2[j]? = some z→W.cell? ⟨x.1,j,none⟩=some (.int x.2.1 z)) :
  ReturnsInHanded {} Tryd.checked os f .any (fun w args=>(s.pre enc Tryd.prog fn conds false w args∧laidMetH Tryd.prog laid w)∧sizedMet enc Tryd.prog fn (OpenSpec.ofChange s) false w args) (s.post enc Tryd.prog fn false true false false):=by
 refine returnsInHanded_of_change_and (C:=Tryd.checked) (X:=fun w _=>laidMetH Tryd.prog laid w) (fun _ _ _ hh h=>h.of_heap hh) own started noInit hfn witness ?_
 intro W base args ds gs before hval0 hW _ hsz hL _
 have hval:∀(j:Nat) t v,fn.params[j]? = some t→args[j]? = some v→Value.okWide Tryd.prog W .any base t v:=hval0
 have hW':=hW
 obtain ⟨p,q,hA,hV,rfl,_,_⟩:=hW
 rw [hvars] at hV
 obtain ⟨rfl,rfl⟩:=trodVars_none hV
 have hvt:s.plain.varTypes Tryd.prog = []:=by simp [ChangeSpec.plain,DataSpec.varTypes,hvars]
 rw [show s.plain.varTypes Tryd.checked.prog = [] from hvt,List.append_nil,List.append_nil,List.all_eq_true] at hsz
 obtain ⟨hl,y,hy,hr⟩:=hargs H enc W base args.toList ds p (fun j t v h1 h2=>hval j t v (by simpa using h1) (by simpa using h2)) hA (fun n hn=>of_decide_eq_true (hsz n hn))
 obtain ⟨s1,s2,s3⟩:=hspec ds (by simpa using hl)
 have hcall:=(hc y hy).2 (immW W) mu0 W args.toList (fun b o u h=>h) (hglob W hL) hr
 rw [Array.toArray_toList] at hcall
 refine hcall.mono ?_
 rintro e W' ⟨r,v,Φ',rfl,rfl,hrep,-,-,hb,-⟩
 obtain ⟨rfl,-⟩:=hrep.val_inv
 exact ⟨_,rfl,post_law laidOut htb hres hvars hread hW' s1 s2 s3 hb⟩
theorem glob_of_reads {P:Program} {W:World} {n:String} {k:IntKind} {zs:List Int} {g:Nat} {t e:TypeId} {m:Nat} (hg:P.globalNamed n=some g) (hty:(P.globals[g]?).map (·.type)=some t) (ht:P.underlying t=some (.array m e)) (he:P.underlying e=some (.int k)) (hce:P.cellsOf e=1) (hct:P.cellsOf t=m) (h:Lib.VarReads P W n (Lib.tabData k zs)):∀j z,zs[j]? = some z→W.cell? ⟨g,j,none⟩=some (.int k z):=by
 obtain ⟨g',t',cs,fuel,p,h1,h2,h3,h4⟩:=h
 obtain rfl:=Option.some.inj (hg.symm.trans h1)
 obtain rfl:=Option.some.inj (hty.symm.trans h2)
 have hc:=Lib.cells_of_tab ht he hce hct h4
 intro j z hz
 have:=World.var?_cell hg h3 j
 rw [this]
 have hcs:cs[j]? = cs.toList[j]?:=by simp
 rw [hcs,hc]
 simp [hz]
end
section
open Go.ChangeShapes Go.WideShapes Go.ChangeAt Go.RowKit
variable {P:Program} {t e:TypeId}
theorem opens_array {n:Nat} {α:Type} {en:α→List PV} {ok:α→Prop} {k:Nat} (ht:P.underlying t=some (.array n e)) (hc:P.cellsOf e=k) (hct:P.cellsOf t=n * k) (he:Opens P e en ok) :
  Opens P t (fun xs:List α=>xs.flatMap en) (fun xs=>(∀x∈xs,ok x)∧xs.length=n):=by
 intro H enc W fuel cs d pl h hw
 obtain ⟨xs,m,rfl,hx,hl,hxl,hel⟩:=DataW.trod_array ht h
 cases hx
 have key:∀j,j≤n→∃ys:List α,ys.length=j∧(∀y∈ys,ok y)∧RepL (immW W) mu0 (ys.flatMap en) (cs.take (j * k)):=by
  intro j
  induction j with
  |zero=>exact fun _=>⟨[],rfl,by simp,by simpa using RepL.nil⟩
  |succ j ih=>
   intro hj
   obtain ⟨ys,h1,h2,h3⟩:=ih (by omega)
   have hj':=hel j (by omega)
   obtain ⟨x,hxj⟩:∃x,xs[j]? = some x:=⟨_,List.getElem?_eq_getElem (by omega)⟩
   rw [hxj,hc] at hj'
   obtain ⟨y,k1,k2⟩:=he H enc W m _ x.1 x.2 hj' (fun z hz=>by
    refine hw z ?_
    simp only [DataW.weights,ht]
    exact weights_mem (List.mem_map.2 ⟨x,List.mem_of_getElem? hxj,rfl⟩) z hz)
   refine ⟨ys ++ [y],by simp [h1],fun z hz=>?_,?_⟩
   ·rcases List.mem_append.1 hz with hz|hz
    ·exact h2 z hz
    ·simp at hz;subst hz;exact k1
   ·rw [List.flatMap_append,Nat.succ_mul,List.take_add]
    refine h3.append ?_
    simpa using k2
 obtain ⟨ys,h1,h2,h3⟩:=key n (Nat.le_refl _)
 refine ⟨ys,⟨h2,h1⟩,?_⟩
 rwa [List.take_of_length_le (by rw [hl,hct];exact Nat.le_refl _)] at h3
end
section
open Go.RowKit
def pattrL (a:PAttr):List PV := [pstr a.name,pint a.kind,pint a.n,pstr a.s]
def pattrs (l:List PAttr):PV:=.sl l.length 4 (l.flatMap pattrL) none
def pdefL (d:PDef):List PV := [pstr d.name,pint d.kind,pint d.lo,pint d.hi,pstrs d.words]
def pdefs (l:List PDef):PV:=.sl l.length 5 (l.flatMap pdefL) none
def pschema (s:PSchema):PV:=.agg [pint s.dims,pint s.metric,pdefs s.defs]
def pentry (e:PEntry):PV:=.agg [pint e.id,pint e.ver,pint e.owner,pint e.filed,pint e.frm,pint e.to,pint e.born,pints e.vec,pattrs e.attrs]
theorem low_pattrL (a:PAttr):∀c∈pattrL a,Low c:=by intro c hc;simp [pattrL] at hc;rcases hc with rfl|rfl|rfl|rfl<;>exact .val _
theorem low_pattrs (l:List PAttr):Low (pattrs l)↔True:=⟨fun _=>trivial,fun _=>.sl _ _ _ _ (fun c hc=>by obtain ⟨a,-,h⟩:=List.mem_flatMap.1 hc;exact low_pattrL a c h)⟩
theorem low_pdefL (d:PDef):∀c∈pdefL d,Low c:=by
 intro c hc;simp [pdefL] at hc
 rcases hc with rfl|rfl|rfl|rfl|rfl
 ·exact .val _
 ·exact .val _
 ·exact .val _
 ·exact .val _
 ·exact (low_pstrs _).2 trivial
theorem low_pdefs (l:List PDef):Low (pdefs l)↔True:=⟨fun _=>trivial,fun _=>.sl _ _ _ _ (fun c hc=>by obtain ⟨a,-,h⟩:=List.mem_flatMap.1 hc;exact low_pdefL a c h)⟩
theorem low_pschema (s:PSchema):Low (pschema s)↔True:=⟨fun _=>trivial,fun _=>.agg _ (by
 intro c hc;simp at hc
 rcases hc with rfl|rfl|rfl
 ·exact .val _
 ·exact .val _
 ·exact (low_pdefs _).2 trivial)⟩
theorem low_pentry (s:PEntry):Low (pentry s)↔True:=⟨fun _=>trivial,fun _=>.agg _ (by
 intro c hc;simp at hc
 rcases hc with rfl|rfl|rfl|rfl|rfl|rfl|rfl|rfl|rfl
 ·exact .val _
 ·exact .val _
 ·exact .val _
 ·exact .val _
 ·exact .val _
 ·exact .val _
 ·exact .val _
 ·exact (low_pints _).2 trivial
 ·exact (low_pattrs _).2 trivial)⟩
end
section
open Go.RowKit
variable {Φ:Imm} {μ:Nat→Option Nat} {w:World} (himm:∀b o u,Φ b o=some u→w.cell? ⟨b,o,none⟩=some u)
include himm
theorem rd_of_rep {α:Type} {f:α→Value} {l:List α} {n:Nat} {own:Option TypeId} {v:Value} (h:Rep Φ μ (.sl n 1 (l.map fun x=>.val (f x)) own) v):Rd w v (l.map f):=by
 obtain ⟨a,b,off,cap,us,rfl,h1,h2,h3,h4,h5,h6⟩:=h.sl_inv
 have hn:n=l.length:=by simpa using h3.symm
 subst hn
 refine ⟨a,cap,b,off,by simp,by simpa using h1,h2,by simpa using h4,fun j u hu=>?_⟩
 have hj:j < l.length:=by have:=(List.getElem?_eq_some_iff.1 hu).1;simpa using this
 have hr:=h6 j (.val (f l[j])) (by simp [hj])
 obtain ⟨e,-⟩:=hr.val_inv
 have:=himm _ _ _ (h5 j (by simpa using hj))
 rw [this,e]
 simp [hj] at hu
 rw [hu]
theorem ints_of_rep {zs:List Int} {v:Value} (h:Rep Φ μ (pints zs) v):Ints w v zs:=rd_of_rep himm h
theorem strs_of_rep {zs:List ByteArray} {v:Value} (h:Rep Φ μ (pstrs zs) v):Strs w v zs:=rd_of_rep himm h
theorem bytes_of_rep {zs:List Int} {v:Value} (h:Rep Φ μ (pbytes zs) v):Bytes w v zs:=rd_of_rep himm h
theorem post_tup3 {w' : World} {E:TypeId} {v:Value} {α:Type} {f:α→Value} {l:List α} {x y:Int} (hplain:∀x,plainV (f x)=true) (ho:Own w.heap.size E w' v (l.map f)) (hb:Below w.heap.size w w') (hE:E < 1000000:=by decide) :
  CallPost Φ w (· = .tup [.sl l.length 1 (l.map fun x=>.val (f x)) none,pint x,pint y]) (.returned (.tuple #[v, .int .i64 x, .int .i64 y])) w':=by
 obtain ⟨Φ',h1,h2,h3,h4⟩:=own_rep himm hplain ho hb hE
 exact ⟨_,_,Φ',rfl,rfl,(RepL.cons h3.bare (RepL.cons (.val _ rfl) (RepL.cons (.val _ rfl) RepL.nil))).tup,h1,h2,hb,fun n k cs E' e=>by cases e⟩
end
section
open Go.RowKit
def pintsO (zs:List Int):PV:=.sl zs.length 1 (zs.map pint) (some 3)
def typeTab:Tab := [
 none,
 some { size:=1,agg:=false,kind:=.func,zero := [.val .nilFunc],eqs := [] },
 some { size:=1,agg:=false,kind:=.int .i64,zero := [.val (.int .i64 0)],eqs := [] },
 some { size:=1,agg:=false,kind:=.int .i64,zero := [.val (.int .i64 0)],eqs := [] },
 some { size:=1,agg:=false,kind:=.bool,zero := [.val (.bool false)],eqs := [] },
 some { size:=1,agg:=false,kind:=.int .u8,zero := [.val (.int .u8 0)],eqs := [] },
 some { size:=1,agg:=false,kind:=.int .u8,zero := [.val (.int .u8 0)],eqs := [] },
 some { size:=4,agg:=true,kind:=.struct [(0,1,false),(1,1,false),(2,1,false),(3,1,false)],zero := [.val (.int .i64 0), .val (.int .i64 0), .val (.bool false), .val (.int .u8 0)],eqs := [.int, .int, .bool, .int] },
 some { size:=4,agg:=true,kind:=.struct [(0,1,false),(1,1,false),(2,1,false),(3,1,false)],zero := [.val (.int .i64 0), .val (.int .i64 0), .val (.bool false), .val (.int .u8 0)],eqs := [.int, .int, .bool, .int] },
 some { size:=1,agg:=false,kind:=.str,zero := [.val (.string { data:={ toList := [] } })],eqs := [] },
 some { size:=1,agg:=false,kind:=.str,zero := [.val (.string { data:={ toList := [] } })],eqs := [] },
 some { size:=1,agg:=false,kind:=.str,zero := [.val (.string { data:={ toList := [] } })],eqs := [] },
 some { size:=1,agg:=false,kind:=.int .u64,zero := [.val (.int .u64 0)],eqs := [] },
 some { size:=2,agg:=true,kind:=.struct [(0,1,false),(1,1,false)],zero := [.val (.string { data:={ toList := [] } }), .val (.int .u64 0)],eqs := [] },
 some { size:=2,agg:=true,kind:=.struct [(0,1,false),(1,1,false)],zero := [.val (.string { data:={ toList := [] } }), .val (.int .u64 0)],eqs := [] },
 some { size:=1,agg:=false,kind:=.ptr,zero := [.val (.pointer none)],eqs := [] },
 some { size:=1,agg:=false,kind:=.ptr,zero := [.val (.pointer none)],eqs := [] },
 some { size:=1,agg:=false,kind:=.ptr,zero := [.val (.pointer none)],eqs := [] },
 some { size:=1,agg:=true,kind:=.struct [(0,1,false)],zero := [.val (.pointer none)],eqs := [] },
 some { size:=1,agg:=true,kind:=.struct [(0,1,false)],zero := [.val (.pointer none)],eqs := [] },
 some { size:=1,agg:=false,kind:=.other,zero := [.val .nilIface],eqs := [] },
 some { size:=1,agg:=false,kind:=.int .i32,zero := [.val (.int .i32 0)],eqs := [] },
 some { size:=1,agg:=false,kind:=.slice 3 1 8 [.val (.int .i64 0)],zero := [.nilsl],eqs := [] },
 some { size:=1,agg:=false,kind:=.slice 44 18 32 [.val (.int .i64 0), .val (.int .i64 0), .val (.int .u8 0), .val (.int .u8 0), .val (.int .u8 0), .val (.int .u8 0), .val (.int .u8 0), .val (.int .u8 0), .val (.int .u8 0), .val (.int .u8 0), .val (.int .u8 0), .val (.int .u8 0), .val (.int .u8 0), .val (.int .u8 0), .val (.int .u8 0), .val (.int .u8 0), .val (.int .u8 0), .val (.int .u8 0)],zero := [.nilsl],eqs := [] },
 some { size:=3,agg:=true,kind:=.struct [(0,1,false),(1,1,false),(2,1,false)],zero := [.val (.int .i64 0), .nilsl, .nilsl],eqs := [] },
 some { size:=3,agg:=true,kind:=.struct [(0,1,false),(1,1,false),(2,1,false)],zero := [.val (.int .i64 0), .nilsl, .nilsl],eqs := [] },
 some { size:=1,agg:=false,kind:=.func,zero := [.val .nilFunc],eqs := [] },
 some { size:=1,agg:=false,kind:=.func,zero := [.val .nilFunc],eqs := [] },
 some { size:=1,agg:=false,kind:=.ptr,zero := [.val (.pointer none)],eqs := [] },
 some { size:=1,agg:=false,kind:=.int .i64,zero := [.val (.int .i64 0)],eqs := [] },
 none,
 some { size:=1,agg:=false,kind:=.func,zero := [.val .nilFunc],eqs := [] },
 some { size:=1,agg:=false,kind:=.ptr,zero := [.val (.pointer none)],eqs := [] },
 some { size:=1,agg:=false,kind:=.func,zero := [.val .nilFunc],eqs := [] },
 some { size:=1,agg:=false,kind:=.func,zero := [.val .nilFunc],eqs := [] },
 some { size:=1,agg:=false,kind:=.func,zero := [.val .nilFunc],eqs := [] },
 some { size:=1,agg:=false,kind:=.func,zero := [.val .nilFunc],eqs := [] },
 some { size:=1,agg:=false,kind:=.func,zero := [.val .nilFunc],eqs := [] },
 some { size:=1,agg:=false,kind:=.func,zero := [.val .nilFunc],eqs := [] },
 some { size:=1,agg:=false,kind:=.func,zero := [.val .nilFunc],eqs := [] },
 some { size:=1,agg:=false,kind:=.func,zero := [.val .nilFunc],eqs := [] },
 some { size:=16,agg:=true,kind:=.arr 16 5 1 false,zero:=(List.replicate 16 (.val (.int .u8 0))),eqs:=(List.replicate 16 (.int)) },
 some { size:=16,agg:=true,kind:=.arr 16 5 1 false,zero:=(List.replicate 16 (.val (.int .u8 0))),eqs:=(List.replicate 16 (.int)) },
 some { size:=18,agg:=true,kind:=.struct [(0,1,false),(1,1,false),(2,16,true)],zero:=([.val (.int .i64 0), .val (.int .i64 0)] ++ List.replicate 16 (.val (.int .u8 0))),eqs:=(List.replicate 18 (.int)) },
 some { size:=18,agg:=true,kind:=.struct [(0,1,false),(1,1,false),(2,16,true)],zero:=([.val (.int .i64 0), .val (.int .i64 0)] ++ List.replicate 16 (.val (.int .u8 0))),eqs:=(List.replicate 18 (.int)) },
 some { size:=1,agg:=false,kind:=.func,zero := [.val .nilFunc],eqs := [] },
 some { size:=1,agg:=false,kind:=.func,zero := [.val .nilFunc],eqs := [] },
 some { size:=1,agg:=false,kind:=.func,zero := [.val .nilFunc],eqs := [] },
 none,
 some { size:=1,agg:=false,kind:=.func,zero := [.val .nilFunc],eqs := [] },
 none,
 some { size:=1,agg:=false,kind:=.func,zero := [.val .nilFunc],eqs := [] },
 some { size:=5,agg:=true,kind:=.struct [(0,1,false),(1,1,false),(2,3,true)],zero := [.val (.pointer none), .val (.int .i64 0), .val (.int .i64 0), .nilsl, .nilsl],eqs := [] },
 some { size:=5,agg:=true,kind:=.struct [(0,1,false),(1,1,false),(2,3,true)],zero := [.val (.pointer none), .val (.int .i64 0), .val (.int .i64 0), .nilsl, .nilsl],eqs := [] },
 some { size:=1,agg:=false,kind:=.func,zero := [.val .nilFunc],eqs := [] },
 some { size:=1,agg:=false,kind:=.func,zero := [.val .nilFunc],eqs := [] },
 some { size:=1,agg:=false,kind:=.func,zero := [.val .nilFunc],eqs := [] },
 some { size:=1,agg:=false,kind:=.func,zero := [.val .nilFunc],eqs := [] },
 some { size:=1,agg:=false,kind:=.slice 73 65 65 [.val (.int .u8 0), .val (.int .u8 0), .val (.int .u8 0), .val (.int .u8 0), .val (.int .u8 0), .val (.int .u8 0), .val (.int .u8 0), .val (.int .u8 0), .val (.int .u8 0), .val (.int .u8 0), .val (.int .u8 0), .val (.int .u8 0), .val (.int .u8 0), .val (.int .u8 0), .val (.int .u8 0), .val (.int .u8 0), .val (.int .u8 0), .val (.int .u8 0), .val (.int .u8 0), .val (.int .u8 0), .val (.int .u8 0), .val (.int .u8 0), .val (.int .u8 0), .val (.int .u8 0), .val (.int .u8 0), .val (.int .u8 0), .val (.int .u8 0), .val (.int .u8 0), .val (.int .u8 0), .val (.int .u8 0), .val (.int .u8 0), .val (.int .u8 0), .val (.int .u8 0), .val (.int .u8 0), .val (.int .u8 0), .val (.int .u8 0), .val (.int .u8 0), .val (.int .u8 0), .val (.int .u8 0), .val (.int .u8 0), .val (.int .u8 0), .val (.int .u8 0), .val (.int .u8 0), .val (.int .u8 0), .val (.int .u8 0), .val (.int .u8 0), .val (.int .u8 0), .val (.int .u8 0), .val (.int .u8 0), .val (.int .u8 0), .val (.int .u8 0), .val (.int .u8 0), .val (.int .u8 0), .val (.int .u8 0), .val (.int .u8 0), .val (.int .u8 0), .val (.int .u8 0), .val (.int .u8 0), .val (.int .u8 0), .val (.int .u8 0), .val (.int .u8 0), .val (.int .u8 0), .val (.int .u8 0), .val (.int .u8 0), .val (.bool false)],zero := [.nilsl],eqs := [] },
 some { size:=1,agg:=false,kind:=.map 3 75,zero := [.val (.map none)],eqs := [] },
 some { size:=5,agg:=true,kind:=.struct [(0,1,false),(1,1,false),(2,1,false),(3,1,false),(4,1,false)],zero := [.nilsl, .val (.map none), .val (.int .i64 0), .val (.int .i64 0), .val (.bool false)],eqs := [] },
 some { size:=5,agg:=true,kind:=.struct [(0,1,false),(1,1,false),(2,1,false),(3,1,false),(4,1,false)],zero := [.nilsl, .val (.map none), .val (.int .i64 0), .val (.int .i64 0), .val (.bool false)],eqs := [] },
 some { size:=1,agg:=false,kind:=.func,zero := [.val .nilFunc],eqs := [] },
 some { size:=1,agg:=false,kind:=.func,zero := [.val .nilFunc],eqs := [] },
 some { size:=1,agg:=false,kind:=.func,zero := [.val .nilFunc],eqs := [] },
 some { size:=1,agg:=false,kind:=.func,zero := [.val .nilFunc],eqs := [] },
 some { size:=1,agg:=false,kind:=.func,zero := [.val .nilFunc],eqs := [] },
 some { size:=1,agg:=false,kind:=.func,zero := [.val .nilFunc],eqs := [] },
 some { size:=1,agg:=false,kind:=.func,zero := [.val .nilFunc],eqs := [] },
 some { size:=1,agg:=false,kind:=.func,zero := [.val .nilFunc],eqs := [] },
 some { size:=64,agg:=true,kind:=.arr 64 5 1 false,zero:=(List.replicate 64 (.val (.int .u8 0))),eqs:=(List.replicate 64 (.int)) },
 some { size:=64,agg:=true,kind:=.arr 64 5 1 false,zero:=(List.replicate 64 (.val (.int .u8 0))),eqs:=(List.replicate 64 (.int)) },
 some { size:=65,agg:=true,kind:=.struct [(0,64,true),(64,1,false)],zero:=(List.replicate 64 (.val (.int .u8 0)) ++ [.val (.bool false)]),eqs:=(List.replicate 64 (.int) ++ [.bool]) },
 some { size:=65,agg:=true,kind:=.struct [(0,64,true),(64,1,false)],zero:=(List.replicate 64 (.val (.int .u8 0)) ++ [.val (.bool false)]),eqs:=(List.replicate 64 (.int) ++ [.bool]) },
 some { size:=1,agg:=false,kind:=.func,zero := [.val .nilFunc],eqs := [] },
 some { size:=1,agg:=false,kind:=.slice 71 64 64 [.val (.int .u8 0), .val (.int .u8 0), .val (.int .u8 0), .val (.int .u8 0), .val (.int .u8 0), .val (.int .u8 0), .val (.int .u8 0), .val (.int .u8 0), .val (.int .u8 0), .val (.int .u8 0), .val (.int .u8 0), .val (.int .u8 0), .val (.int .u8 0), .val (.int .u8 0), .val (.int .u8 0), .val (.int .u8 0), .val (.int .u8 0), .val (.int .u8 0), .val (.int .u8 0), .val (.int .u8 0), .val (.int .u8 0), .val (.int .u8 0), .val (.int .u8 0), .val (.int .u8 0), .val (.int .u8 0), .val (.int .u8 0), .val (.int .u8 0), .val (.int .u8 0), .val (.int .u8 0), .val (.int .u8 0), .val (.int .u8 0), .val (.int .u8 0), .val (.int .u8 0), .val (.int .u8 0), .val (.int .u8 0), .val (.int .u8 0), .val (.int .u8 0), .val (.int .u8 0), .val (.int .u8 0), .val (.int .u8 0), .val (.int .u8 0), .val (.int .u8 0), .val (.int .u8 0), .val (.int .u8 0), .val (.int .u8 0), .val (.int .u8 0), .val (.int .u8 0), .val (.int .u8 0), .val (.int .u8 0), .val (.int .u8 0), .val (.int .u8 0), .val (.int .u8 0), .val (.int .u8 0), .val (.int .u8 0), .val (.int .u8 0), .val (.int .u8 0), .val (.int .u8 0), .val (.int .u8 0), .val (.int .u8 0), .val (.int .u8 0), .val (.int .u8 0), .val (.int .u8 0), .val (.int .u8 0), .val (.int .u8 0)],zero := [.nilsl],eqs := [] },
 none,
 some { size:=1,agg:=false,kind:=.func,zero := [.val .nilFunc],eqs := [] },
 some { size:=1,agg:=false,kind:=.func,zero := [.val .nilFunc],eqs := [] },
 some { size:=1,agg:=false,kind:=.func,zero := [.val .nilFunc],eqs := [] },
 none,
 some { size:=1,agg:=false,kind:=.func,zero := [.val .nilFunc],eqs := [] },
 some { size:=1,agg:=false,kind:=.func,zero := [.val .nilFunc],eqs := [] },
 some { size:=1,agg:=false,kind:=.func,zero := [.val .nilFunc],eqs := [] },
 some { size:=1,agg:=false,kind:=.func,zero := [.val .nilFunc],eqs := [] },
 some { size:=1,agg:=false,kind:=.func,zero := [.val .nilFunc],eqs := [] },
 some { size:=1,agg:=false,kind:=.func,zero := [.val .nilFunc],eqs := [] },
 some { size:=1,agg:=false,kind:=.slice 5 1 1 [.val (.int .u8 0)],zero := [.nilsl],eqs := [] },
 some { size:=1,agg:=false,kind:=.func,zero := [.val .nilFunc],eqs := [] },
 some { size:=1,agg:=false,kind:=.func,zero := [.val .nilFunc],eqs := [] },
 some { size:=1,agg:=false,kind:=.func,zero := [.val .nilFunc],eqs := [] },
 some { size:=1,agg:=false,kind:=.func,zero := [.val .nilFunc],eqs := [] },
 some { size:=1,agg:=false,kind:=.int .u64,zero := [.val (.int .u64 0)],eqs := [] },
 some { size:=1,agg:=false,kind:=.func,zero := [.val .nilFunc],eqs := [] },
 some { size:=1,agg:=false,kind:=.func,zero := [.val .nilFunc],eqs := [] },
 some { size:=18,agg:=true,kind:=.struct [(0,1,false),(1,1,false),(2,16,true)],zero:=([.val (.int .i64 0), .val (.int .i64 0)] ++ List.replicate 16 (.val (.int .u8 0))),eqs:=(List.replicate 18 (.int)) },
 none,
 some { size:=1,agg:=false,kind:=.func,zero := [.val .nilFunc],eqs := [] },
 none,
 some { size:=1,agg:=false,kind:=.func,zero := [.val .nilFunc],eqs := [] },
 some { size:=1,agg:=false,kind:=.func,zero := [.val .nilFunc],eqs := [] },
 none,
 some { size:=1,agg:=false,kind:=.func,zero := [.val .nilFunc],eqs := [] },
 some { size:=1,agg:=false,kind:=.func,zero := [.val .nilFunc],eqs := [] },
 some { size:=1,agg:=false,kind:=.func,zero := [.val .nilFunc],eqs := [] },
 some { size:=1,agg:=false,kind:=.slice 9 1 16 [.val (.string { data:={ toList := [] } })],zero := [.nilsl],eqs := [] },
 some { size:=1,agg:=false,kind:=.func,zero := [.val .nilFunc],eqs := [] },
 some { size:=1,agg:=false,kind:=.func,zero := [.val .nilFunc],eqs := [] },
 some { size:=1,agg:=false,kind:=.func,zero := [.val .nilFunc],eqs := [] },
 some { size:=1,agg:=false,kind:=.int .u32,zero := [.val (.int .u32 0)],eqs := [] },
 some { size:=8,agg:=true,kind:=.arr 8 109 1 false,zero := [.val (.int .u32 0), .val (.int .u32 0), .val (.int .u32 0), .val (.int .u32 0), .val (.int .u32 0), .val (.int .u32 0), .val (.int .u32 0), .val (.int .u32 0)],eqs := [.int, .int, .int, .int, .int, .int, .int, .int] },
 some { size:=1,agg:=false,kind:=.int .u64,zero := [.val (.int .u64 0)],eqs := [] },
 some { size:=73,agg:=true,kind:=.struct [(0,8,true),(8,64,true),(72,1,false)],zero:=(List.replicate 8 (.val (.int .u32 0)) ++ List.replicate 64 (.val (.int .u8 0)) ++ [.val (.int .u64 0)]),eqs:=(List.replicate 73 (.int)) },
 some { size:=73,agg:=true,kind:=.struct [(0,8,true),(8,64,true),(72,1,false)],zero:=(List.replicate 8 (.val (.int .u32 0)) ++ List.replicate 64 (.val (.int .u8 0)) ++ [.val (.int .u64 0)]),eqs:=(List.replicate 73 (.int)) },
 some { size:=1,agg:=false,kind:=.func,zero := [.val .nilFunc],eqs := [] },
 some { size:=1,agg:=false,kind:=.func,zero := [.val .nilFunc],eqs := [] },
 some { size:=32,agg:=true,kind:=.arr 32 5 1 false,zero:=(List.replicate 32 (.val (.int .u8 0))),eqs:=(List.replicate 32 (.int)) },
 some { size:=1,agg:=false,kind:=.func,zero := [.val .nilFunc],eqs := [] },
 some { size:=1,agg:=false,kind:=.func,zero := [.val .nilFunc],eqs := [] },
 some { size:=1,agg:=false,kind:=.func,zero := [.val .nilFunc],eqs := [] },
 some { size:=1,agg:=false,kind:=.func,zero := [.val .nilFunc],eqs := [] },
 some { size:=1,agg:=false,kind:=.func,zero := [.val .nilFunc],eqs := [] },
 some { size:=1,agg:=false,kind:=.func,zero := [.val .nilFunc],eqs := [] },
 none,
 some { size:=1,agg:=false,kind:=.func,zero := [.val .nilFunc],eqs := [] },
 none,
 some { size:=1,agg:=false,kind:=.func,zero := [.val .nilFunc],eqs := [] },
 none,
 some { size:=1,agg:=false,kind:=.func,zero := [.val .nilFunc],eqs := [] },
 some { size:=1,agg:=false,kind:=.slice 87 1 24 [.nilsl],zero := [.nilsl],eqs := [] },
 some { size:=1,agg:=false,kind:=.func,zero := [.val .nilFunc],eqs := [] },
 some { size:=1,agg:=false,kind:=.func,zero := [.val .nilFunc],eqs := [] },
 some { size:=1,agg:=false,kind:=.func,zero := [.val .nilFunc],eqs := [] },
 some { size:=1,agg:=false,kind:=.func,zero := [.val .nilFunc],eqs := [] },
 some { size:=1,agg:=false,kind:=.func,zero := [.val .nilFunc],eqs := [] },
 some { size:=1,agg:=false,kind:=.int .i64,zero := [.val (.int .i64 0)],eqs := [] },
 none,
 some { size:=1,agg:=false,kind:=.func,zero := [.val .nilFunc],eqs := [] },
 some { size:=1,agg:=false,kind:=.func,zero := [.val .nilFunc],eqs := [] },
 some { size:=1,agg:=false,kind:=.func,zero := [.val .nilFunc],eqs := [] },
 some { size:=1,agg:=false,kind:=.func,zero := [.val .nilFunc],eqs := [] },
 some { size:=1,agg:=false,kind:=.func,zero := [.val .nilFunc],eqs := [] },
 some { size:=1,agg:=false,kind:=.func,zero := [.val .nilFunc],eqs := [] },
 some { size:=1,agg:=false,kind:=.func,zero := [.val .nilFunc],eqs := [] },
 some { size:=1,agg:=false,kind:=.func,zero := [.val .nilFunc],eqs := [] },
 some { size:=1,agg:=false,kind:=.func,zero := [.val .nilFunc],eqs := [] },
 some { size:=1,agg:=false,kind:=.func,zero := [.val .nilFunc],eqs := [] },
 some { size:=64,agg:=true,kind:=.arr 64 109 1 false,zero:=(List.replicate 64 (.val (.int .u32 0))),eqs:=(List.replicate 64 (.int)) },
 some { size:=1,agg:=false,kind:=.func,zero := [.val .nilFunc],eqs := [] },
 some { size:=4,agg:=true,kind:=.arr 4 109 1 false,zero := [.val (.int .u32 0), .val (.int .u32 0), .val (.int .u32 0), .val (.int .u32 0)],eqs := [.int, .int, .int, .int] },
 some { size:=1,agg:=false,kind:=.slice 109 1 4 [.val (.int .u32 0)],zero := [.nilsl],eqs := [] },
 some { size:=1,agg:=false,kind:=.func,zero := [.val .nilFunc],eqs := [] },
 some { size:=1,agg:=false,kind:=.int .u64,zero := [.val (.int .u64 0)],eqs := [] },
 some { size:=1,agg:=false,kind:=.func,zero := [.val .nilFunc],eqs := [] },
 some { size:=1,agg:=false,kind:=.func,zero := [.val .nilFunc],eqs := [] },
 some { size:=1,agg:=false,kind:=.func,zero := [.val .nilFunc],eqs := [] },
 some { size:=1,agg:=false,kind:=.ptr,zero := [.val (.pointer none)],eqs := [] },
 some { size:=1,agg:=false,kind:=.func,zero := [.val .nilFunc],eqs := [] },
 some { size:=1,agg:=false,kind:=.func,zero := [.val .nilFunc],eqs := [] },
 some { size:=1,agg:=false,kind:=.ptr,zero := [.val (.pointer none)],eqs := [] },
 none,
 some { size:=1,agg:=false,kind:=.func,zero := [.val .nilFunc],eqs := [] },
 some { size:=1,agg:=false,kind:=.func,zero := [.val .nilFunc],eqs := [] },
 some { size:=4,agg:=true,kind:=.struct [(0,1,false),(1,1,false),(2,1,false),(3,1,false)],zero := [.val (.pointer none), .val (.pointer none), .val (.pointer none), .val (.string { data:={ toList := [] } })],eqs := [] },
 some { size:=4,agg:=true,kind:=.struct [(0,1,false),(1,1,false),(2,1,false),(3,1,false)],zero := [.val (.pointer none), .val (.pointer none), .val (.pointer none), .val (.string { data:={ toList := [] } })],eqs := [] },
 some { size:=0,agg:=true,kind:=.arr 0 16 1 false,zero := [],eqs := [] },
 some { size:=0,agg:=true,kind:=.struct [(0,0,true)],zero := [],eqs := [] },
 some { size:=0,agg:=true,kind:=.struct [(0,0,true)],zero := [],eqs := [] },
 some { size:=1,agg:=false,kind:=.int .u8,zero := [.val (.int .u8 0)],eqs := [] },
 some { size:=1,agg:=false,kind:=.int .u8,zero := [.val (.int .u8 0)],eqs := [] },
 some { size:=1,agg:=false,kind:=.func,zero := [.val .nilFunc],eqs := [] },
 some { size:=1,agg:=false,kind:=.ptr,zero := [.val (.pointer none)],eqs := [] },
 some { size:=1,agg:=false,kind:=.int .i32,zero := [.val (.int .i32 0)],eqs := [] },
 some { size:=1,agg:=false,kind:=.int .i32,zero := [.val (.int .i32 0)],eqs := [] },
 some { size:=11,agg:=true,kind:=.struct [(0,1,false),(1,1,false),(2,1,false),(3,1,false),(4,1,false),(5,1,false),(6,1,false),(7,1,false),(8,1,false),(9,1,false),(10,1,false)],zero := [.val (.int .u64 0), .val (.int .u64 0), .val (.int .u32 0), .val (.int .u8 0), .val (.int .u8 0), .val (.int .u8 0), .val (.int .u8 0), .val .nilFunc, .val (.pointer none), .val (.int .i32 0), .val (.int .i32 0)],eqs := [] },
 some { size:=11,agg:=true,kind:=.struct [(0,1,false),(1,1,false),(2,1,false),(3,1,false),(4,1,false),(5,1,false),(6,1,false),(7,1,false),(8,1,false),(9,1,false),(10,1,false)],zero := [.val (.int .u64 0), .val (.int .u64 0), .val (.int .u32 0), .val (.int .u8 0), .val (.int .u8 0), .val (.int .u8 0), .val (.int .u8 0), .val .nilFunc, .val (.pointer none), .val (.int .i32 0), .val (.int .i32 0)],eqs := [] },
 some { size:=1,agg:=false,kind:=.func,zero := [.val .nilFunc],eqs := [] },
 some { size:=1,agg:=false,kind:=.other,zero := [.val (.pointer none)],eqs := [] }]
theorem typeTab_ok:typeTab=tabOf Tryd.prog:=by kernel_rfl
theorem PCalls.weak {P:Program} {f:FuncId} {args:List PV} {q:PV} (h:PCalls P f args (fun r=>Weak r q)):PCalls P f args (· = q):=by
 refine ⟨h.1,fun Φ μ w vs h1 hgl h2=>(h.2 Φ μ w vs h1 hgl h2).mono ?_⟩
 rintro e w' ⟨r,v,Φ',k1,k2,k3,k4,k5,k6,k7⟩
 refine ⟨q,v,Φ',k1,rfl,k2.1 _ _ _ k3,k4,k5,k6,fun n k cs E e=>?_⟩
 have:=k2.2 (by rw [e];rfl)
 exact k7 n k cs E (by rw [←this,e])
end
section
open Go.RowKit
variable {P:Program} {T:Tab} {σ:PS} {o:Oper} {i base:Nat} {ops:Array Oper} {ok:Nat→Nat→Bool} {rest:List (Nat×Oper)} {K:PS→Prop}
theorem PWops.boolS {d:Nat} {b:Bool} (hk:isCmp o.op=true) (hg:pguard ops σ o=some true) (hd:o.dst=some d) (hE:feff (presE T (headB ops o.dst) (base+i) (σ.only (ok i)) o.op)=some (.val (.bool b))) (hb:σ.freeB (base+i)=true)
  (kt:b=true→PWops P T ops base ok rest K (σ.put d (.val (.bool true)))) (kf:b=false→PWops P T ops base ok rest K (σ.put d (.val (.bool false)))):PWops P T ops base ok ((i,o) :: rest) K σ:=by
 cases b with
 |true=>exact PWops.bool true hg hd hE rfl hb (kt rfl)
 |false=>exact PWops.bool false hg hd hE rfl hb (kf rfl)
theorem PWops.mvC {d:Nat} {x:Operand} {p:PV} (hop:o.op = .move x) (hg:pguard ops σ o=some true) (hd:o.dst=some d) (hx' : ownPV σ x=p) (hn:p.ownB=false) (hb:σ.freeB (base+i)=true) (k:PWops P T ops base ok rest K (σ.put d p)):PWops P T ops base ok ((i,o) :: rest) K σ:=by
 refine PWops.valEq hg hd (p:=p) ?_ rfl hb k
 have hp:pev σ x=p:=by
  cases x with
  |tmp s=>simp only [ownPV] at hx'; simp only [pev,hx'];exact PV.bare_of _ hn
  |_=>exact hx'
 simp only [hop,presE]
 split
 ·cases x with
  |tmp s=>
   simp only [ownPV] at hx'
   have:(σ.only (ok i)).t s=p:=hx'
   simp only [takeE,this,hn]
   simp only [Bool.false_eq_true,if_false,PV.bare_of _ hn]
  |_=>simp only [takeE,pev_only,hp]
 ·simp only [pev_only,hp]
theorem PWops.ldV {d id off:Nat} {x:Operand} {t:TypeId} {ti:TyI} {bs:List PV} {c p:PV} (hop:o.op = .load t x) (hg:pguard ops σ o=some true) (hd:o.dst=some d) (hx:pev σ x = .ptr id off) (hbs:(σ.only (ok i)).b id=some bs) (hc:bs[off]? = some c) (ht:T.at t=some ti) (ha:ti.agg=false) (hq:fval c=some p) (hn:p.ownB=false) (hb:σ.freeB (base+i)=true) (k:PWops P T ops base ok rest K (σ.put d p)):PWops P T ops base ok ((i,o) :: rest) K σ:=by
 have hq':=fval_eq hq
 subst hq'
 refine PWops.valEq hg hd (p:=c) ?_ rfl hb k
 have h1:ploadO T (headB ops o.dst) (σ.only (ok i)).b t (.ptr id off)=none:=by
  simp only [ploadO]
  split
  ·rw [hbs]
   simp only [hc]
   cases c with
   |sl n k cs own=>cases own with
    |none=>rfl
    |some E=>simp [PV.ownB] at hn
   |_=>rfl
  ·rfl
 simp only [hop,presE,pev_only,hx,h1,pvalA,pval,ht,ploadAt,hbs,asVal,ha,hc,Bool.false_eq_true,if_false,Option.map_some,PV.bare_of _ hn]
theorem getD_get {α:Type} {l:List α} {j:Nat} (x:α) (h:j < l.length):l[j]? = some (l.getD j x):=by
 rw [List.getD_eq_getElem?_getD,List.getElem?_eq_getElem h];rfl
theorem PWops.idxZ {d n k e by_:Nat} {z:Int} {cs zr:List PV} {own:Option TypeId} {kk:IntKind} {x ix:Operand} {t:TypeId} {ti:TyI} (hg:pguard ops σ o=some true) (hd:o.dst=some d) (hop:o.op = .indexAddr t x ix) (hx:pev σ x = .sl n k cs own) (hi:pev σ ix = .val (.int kk z)) (ht:T.at t=some ti) (hk:ti.kind = .slice e k by_ zr) (hb:σ.freeB (base+i)=true) (h0:0≤z∧z < n)
  (kn:PWops P T ops base ok rest K (σ.put d (.ep cs (z.toNat * k)))):PWops P T ops base ok ((i,o) :: rest) K σ:=
 PWops.idx (j:=z.toNat) hg hd hop hx (by rw [hi,Int.toNat_of_nonneg h0.1]) ht hk hb (by omega) kn
theorem PWops.idxZ1 {d n e by_:Nat} {z:Int} {cs zr:List PV} {own:Option TypeId} {kk:IntKind} {x ix:Operand} {t:TypeId} {ti:TyI} (hg:pguard ops σ o=some true) (hd:o.dst=some d) (hop:o.op = .indexAddr t x ix) (hx:pev σ x = .sl n 1 cs own) (hi:pev σ ix = .val (.int kk z)) (ht:T.at t=some ti) (hk:ti.kind = .slice e 1 by_ zr) (hb:σ.freeB (base+i)=true) (h0:0≤z∧z < n)
  (kn:PWops P T ops base ok rest K (σ.put d (.ep cs z.toNat))):PWops P T ops base ok ((i,o) :: rest) K σ:=
 PWops.idx1 (j:=z.toNat) hg hd hop hx (by rw [hi,Int.toNat_of_nonneg h0.1]) ht hk hb (by omega) kn
theorem PWops.ldM {α:Type} [Inhabited α] {d off:Nat} {f:α→PV} {l:List α} {q:PV} {x:Operand} {t:TypeId} {ti:TyI} (hg:pguard ops σ o=some true) (hd:o.dst=some d) (hop:o.op = .load t x) (hx:pev σ x = .ep (l.map f) off) (ht:T.at t=some ti) (ha:ti.agg=false) (hb:σ.freeB (base+i)=true) (hl:off < l.length) (hq:fval (f (l.getD off default)).bare=some q)
  (kn:PWops P T ops base ok rest K (σ.put d q)):PWops P T ops base ok ((i,o) :: rest) K σ:=
 PWops.ld hg hd hop hx ht ha hb (map_get (getD_get default hl)) hq kn
theorem PWops.ldR {α:Type} [Inhabited α] {d j k r:Nat} {f:α→List PV} {l:List α} {c q:PV} {x:Operand} {t:TypeId} {ti:TyI} (hg:pguard ops σ o=some true) (hd:o.dst=some d) (hop:o.op = .load t x) (hx:pev σ x = .ep (l.flatMap f) (j * k+r)) (ht:T.at t=some ti) (ha:ti.agg=false) (hb:σ.freeB (base+i)=true) (hk:∀x,(f x).length=k) (hl:j < l.length) (hc:(f (l.getD j default))[r]? = some c) (hq:fval c.bare=some q)
  (kn:PWops P T ops base ok rest K (σ.put d q)):PWops P T ops base ok ((i,o) :: rest) K σ:=
 PWops.ld hg hd hop hx ht ha hb (flatMap_get hk (getD_get default hl) hc) hq kn
theorem PWops.ldRA {α:Type} [Inhabited α] {d j k:Nat} {f:α→List PV} {l:List α} {row:List PV} {x:Operand} {t:TypeId} {kd:TD} {zr:List PV} {es:List SK} (hg:pguard ops σ o=some true) (hd:o.dst=some d) (hop:o.op = .load t x) (hx:pev σ x = .ep (l.flatMap f) (j * k)) (ht:T.at t=some ⟨k,true,kd,zr,es⟩) (hb:σ.freeB (base+i)=true) (hk:∀x,(f x).length=k) (hl:j < l.length) (hr:flist ((f (l.getD j default)).map PV.bare)=some row)
  (kn:PWops P T ops base ok rest K (σ.put d (.agg row))):PWops P T ops base ok ((i,o) :: rest) K σ:=by
 refine PWops.ldA hg hd hop hx ht hb ?_ ?_ kn
 ·rw [flatMap_len hk]
  have:=Nat.mul_le_mul_right k (show j+1≤l.length from hl)
  rw [Nat.succ_mul] at this;exact this
 ·rw [flatMap_row hk (getD_get default hl)];exact flist_eq hr
theorem PWops.slcM {α:Type} {d e by_ n:Nat} {zl zh:Int} {kl kh:IntKind} {f:α→PV} {L:List α} {zr:List PV} {own:Option TypeId} {x lo hi:Operand} {t:TypeId} {ti:TyI} (hg:pguard ops σ o=some true) (hd:o.dst=some d) (hop:o.op = .slice t x (some lo) (some hi) none) (hx:pev σ x = .sl n 1 (L.map f) own) (hlo:pev σ lo = .val (.int kl zl)) (hhi:pev σ hi = .val (.int kh zh)) (ht:T.at t=some ti) (hk:ti.kind = .slice e 1 by_ zr) (hb:σ.freeB (base+i)=true)
  (h1:0≤zl∧zl≤zh∧zh≤n∧n=L.length) (kn:PWops P T ops base ok rest K (σ.put d (.sl ((L.drop zl.toNat).take (zh.toNat - zl.toNat)).length 1 (((L.drop zl.toNat).take (zh.toNat - zl.toNat)).map f) none))):PWops P T ops base ok ((i,o) :: rest) K σ:=by
 refine PWops.slc zl.toNat zh.toNat hg hd hop hx ht hk hb ?_ ?_ ?_
 ·simp only [Option.map_some,hhi,pbound];rw [if_pos ⟨by omega,h1.2.2.1⟩]
 ·simp only [Option.map_some,hlo,pbound];rw [if_pos ⟨h1.1,by omega⟩]
 ·have:PV.sl (zh.toNat - zl.toNat) 1 (((L.map f).drop (zl.toNat * 1)).take ((zh.toNat - zl.toNat) * 1)) none = .sl ((L.drop zl.toNat).take (zh.toNat - zl.toNat)).length 1 (((L.drop zl.toNat).take (zh.toNat - zl.toNat)).map f) none:=
   sl_eq (by rw [List.length_take,List.length_drop];omega) (by rw [Nat.mul_one,Nat.mul_one,List.map_take,List.map_drop])
  rw [this];exact kn
theorem PWops.slcL {α:Type} {d e by_ n:Nat} {zl:Int} {kl:IntKind} {f:α→PV} {L:List α} {zr:List PV} {own:Option TypeId} {x lo:Operand} {t:TypeId} {ti:TyI} (hg:pguard ops σ o=some true) (hd:o.dst=some d) (hop:o.op = .slice t x (some lo) none none) (hx:pev σ x = .sl n 1 (L.map f) own) (hlo:pev σ lo = .val (.int kl zl)) (ht:T.at t=some ti) (hk:ti.kind = .slice e 1 by_ zr) (hb:σ.freeB (base+i)=true)
  (h1:0≤zl∧zl≤n∧n=L.length) (kn:PWops P T ops base ok rest K (σ.put d (.sl (L.drop zl.toNat).length 1 ((L.drop zl.toNat).map f) none))):PWops P T ops base ok ((i,o) :: rest) K σ:=by
 refine PWops.slc zl.toNat n hg hd hop hx ht hk hb rfl ?_ ?_
 ·simp only [Option.map_some,hlo,pbound];rw [if_pos ⟨h1.1,by omega⟩]
 ·have:PV.sl (n - zl.toNat) 1 (((L.map f).drop (zl.toNat * 1)).take ((n - zl.toNat) * 1)) none = .sl (L.drop zl.toNat).length 1 ((L.drop zl.toNat).map f) none:=
   sl_eq (by rw [List.length_drop];omega) (by rw [Nat.mul_one,Nat.mul_one,List.take_of_length_le (by rw [List.length_drop,List.length_map];omega),List.map_drop])
  rw [this];exact kn
theorem PWops.slcH {α:Type} {d e by_ n:Nat} {zh:Int} {kh:IntKind} {f:α→PV} {L:List α} {zr:List PV} {own:Option TypeId} {x hi:Operand} {t:TypeId} {ti:TyI} (hg:pguard ops σ o=some true) (hd:o.dst=some d) (hop:o.op = .slice t x none (some hi) none) (hx:pev σ x = .sl n 1 (L.map f) own) (hhi:pev σ hi = .val (.int kh zh)) (ht:T.at t=some ti) (hk:ti.kind = .slice e 1 by_ zr) (hb:σ.freeB (base+i)=true)
  (h1:0≤zh∧zh≤n∧n=L.length) (kn:PWops P T ops base ok rest K (σ.put d (.sl (L.take zh.toNat).length 1 ((L.take zh.toNat).map f) none))):PWops P T ops base ok ((i,o) :: rest) K σ:=by
 refine PWops.slc 0 zh.toNat hg hd hop hx ht hk hb ?_ rfl ?_
 ·simp only [Option.map_some,hhi,pbound];rw [if_pos ⟨h1.1,h1.2.1⟩]
 ·have:PV.sl (zh.toNat - 0) 1 (((L.map f).drop (0 * 1)).take ((zh.toNat - 0) * 1)) none = .sl (L.take zh.toNat).length 1 ((L.take zh.toNat).map f) none:=
   sl_eq (by rw [List.length_take];omega) (by rw [Nat.mul_one,Nat.zero_mul,List.drop_zero,Nat.sub_zero,List.map_take])
  rw [this];exact kn
end
section
open Go.RowKit
theorem take_getD {α:Type} {l:List α} {j:Nat} (x:α) (h:j < l.length):l.take (j+1)=l.take j ++ [l.getD j x]:=by
 rw [List.take_add_one,getD_get x h];rfl
instance:Inhabited ByteArray:=⟨ByteArray.empty⟩
def isStop:Op→Bool
 | .binOp op _ _ _ _=>match op with
  | .eql | .neq | .lss | .leq | .gtr | .geq | .add | .sub | .mul | .quo | .rem=>true
  |_=>false
 | .indexAddr .. => true
 | .slice .. => true
 | .call c=>match c.callee with
  | .builtin .len | .builtin .max | .builtin .min=>false
  |_=>true
 |_=>false
def applyE (σ:PS):Option Nat→Option Eff→Option PS
 |some d,some ⟨v,[],none,[]⟩=>match v with
  | .sl n k cs (some e)=>match flist cs with
   |some l=>some (σ.put d (.sl n k l (some e)))
   |none=>none
  |v=>match fval v with
   |some p=>some (σ.put d p)
   |none=>none
 |some d,some ⟨v,[],some s,[]⟩=>match fval v,fval (σ.t s).bare with
  |some p,some q=>some ((σ.put s q).put d p)
  |_,_=>none
 |some d,some ⟨v,[(id,cs)],none,[]⟩=>match fval v,flist cs with
  |some p,some l=>some ((σ.setb id l).put d p)
  |_,_=>none
 |none,some ⟨_,[(id,cs)],none,[]⟩=>match flist cs with
  |some l=>some (σ.setb id l)
  |none=>none
 |none,some ⟨_,[(id,cs)],some s,[]⟩=>match flist cs,fval (σ.t s).bare with
  |some l,some q=>some ((σ.put s q).setb id l)
  |_,_=>none
 |_,_=>none
def quick (T:Tab) (σ:PS) (ok:Nat→Bool):Op→Option PV
 | .move x=>match fcell (ownPV σ x) with
  |some p=>if p.ownB then none else some p
  |none=>none
 | .extract x i=>match pev σ x with
  | .tup vs=>match vs[i]? with
   |some c=>match fcell c with
    |some p=>if p.ownB then none else some p
    |none=>none
   |none=>none
  |_=>none
 | .load t x=>match pev σ x with
  | .ptr id off=>match ok id,σ.b id,T.at t with
   |true,some bs,some ti=>if ti.agg then none else match bs[off]? with
    |some c=>match fval c with
     |some p=>if p.ownB then none else some p
     |none=>none
    |none=>none
   |_,_,_=>none
  |_=>none
 |_=>none
noncomputable def stepF (T:Tab) (ops:Array Oper) (base:Nat) (ok:Nat→Nat→Bool) (i:Nat) (o:Oper) (σ:PS):Option PS:=
 match pguard ops σ o with
 |some false=>match o.dst with
  |some d=>some (σ.put d (.tup []))
  |none=>none
 |some true=>
  if isStop o.op then none
  else match σ.freeB (base+i) with
   |false=>none
   |true=>match o.dst,quick T σ (ok i) o.op with
    |some d,some p=>some (σ.put d p)
    |_,_=>applyE σ o.dst (presE T (headB ops o.dst) (base+i) (σ.only (ok i)) o.op)
 |none=>none
theorem flatMap_drop {α:Type} {f:α→List PV} {k:Nat} (hk:∀x,(f x).length=k):∀(l:List α) (j:Nat),(l.flatMap f).drop (j * k)=(l.drop j).flatMap f
 |l,0=>by simp
 | [],j+1=>by simp
 |y :: l,j+1=>by
  rw [List.flatMap_cons,List.drop_succ_cons,←flatMap_drop hk l j,Nat.succ_mul,Nat.add_comm,←List.drop_drop,List.drop_left' (hk y)]
theorem flatMap_take {α:Type} {f:α→List PV} {k:Nat} (hk:∀x,(f x).length=k):∀(l:List α) (j:Nat),(l.flatMap f).take (j * k)=(l.take j).flatMap f
 |l,0=>by simp
 | [],j+1=>by simp
 |y :: l,j+1=>by
  rw [List.flatMap_cons,List.take_succ_cons,List.flatMap_cons,←flatMap_take hk l j,Nat.succ_mul,Nat.add_comm,List.take_add,List.take_left' (hk y),List.drop_left' (hk y)]
end
section
open Go.RowKit
variable {P:Program} {T:Tab} {σ σ' : PS} {o:Oper} {i base:Nat} {ops:Array Oper} {ok:Nat→Nat→Bool} {rest:List (Nat×Oper)} {K:PS→Prop}
theorem PWops.applyE {E:Option Eff} (hg:pguard ops σ o=some true) (hE:presE T (headB ops o.dst) (base+i) (σ.only (ok i)) o.op=E) (hb:σ.freeB (base+i)=true) (h:Go.Proofs.YtmeekbjhpidcgaaDoor.applyE σ o.dst E=some σ') (k:PWops P T ops base ok rest K σ'):PWops P T ops base ok ((i,o) :: rest) K σ:=by
 have fin:∀e,E=some e→σ.app o.dst e=σ'→PWops P T ops base ok ((i,o) :: rest) K σ:=fun e he h=>PWops.step hg (hE.trans he) hb (by rw [h];exact k)
 unfold Go.Proofs.YtmeekbjhpidcgaaDoor.applyE at h
 split at h
 ·rename_i d v hd
  split at h
  ·rename_i n k' cs e
   split at h
   ·rename_i l hl
    cases h
    exact fin _ rfl (by rw [hd,flist_eq hl];rfl)
   ·cases h
  ·split at h
   ·rename_i p hp
    cases h
    exact fin _ rfl (by rw [hd,fval_eq hp];rfl)
   ·cases h
 ·rename_i d v s hd
  split at h
  ·rename_i p q hp hq
   cases h
   exact fin _ rfl (by rw [hd,fval_eq hp];simp only [PS.app,fval_eq hq];rfl)
  ·cases h
 ·rename_i d v id cs hd
  split at h
  ·rename_i p l hp hl
   cases h
   exact fin _ rfl (by rw [hd,fval_eq hp,flist_eq hl];rfl)
  ·cases h
 ·rename_i v id cs hd
  split at h
  ·rename_i l hl
   cases h
   exact fin _ rfl (by rw [hd,flist_eq hl];rfl)
  ·cases h
 ·rename_i v id cs s hd
  split at h
  ·rename_i l q hl hq
   cases h
   exact fin _ rfl (by rw [hd,flist_eq hl];simp only [PS.app,fval_eq hq];rfl)
  ·cases h
 ·cases h
theorem PWops.stepA (h:stepF T ops base ok i o σ=some σ') (k:PWops P T ops base ok rest K σ'):PWops P T ops base ok ((i,o) :: rest) K σ:=by
 unfold stepF at h
 split at h
 ·rename_i hg
  split at h
  ·rename_i d hd
   cases h
   exact PWops.pass hg hd k
  ·cases h
 ·rename_i hg
  split at h
  ·cases h
  ·split at h
   ·cases h
   ·rename_i hb
    split at h
    ·rename_i d p hd hq
     cases h
     unfold quick at hq
     split at hq
     ·rename_i x hop
      split at hq
      ·rename_i p' hp
       split at hq
       ·cases hq
       ·rename_i hn
        cases hq
        exact PWops.mvC hop hg hd (fcell_eq hp) (by simpa using hn) hb k
      ·cases hq
     ·rename_i x ix hop
      split at hq
      ·rename_i vs hx
       split at hq
       ·rename_i c hc
        split at hq
        ·rename_i p' hp
         split at hq
         ·cases hq
         ·rename_i hn
          cases hq
          have hcp:=fcell_eq hp
          subst hcp
          exact PWops.valEq hg hd (p:=c) (by simp only [hop,presE,pvalA,pval,pev_only,hx,hc,Option.map_some,PV.bare_of _ (by simpa using hn:c.ownB=false)]) rfl hb k
        ·cases hq
       ·cases hq
      ·cases hq
     ·rename_i t x hop
      split at hq
      ·rename_i id off hx
       split at hq
       ·rename_i bs ti h1 h2 h3
        split at hq
        ·cases hq
        ·rename_i ha
         split at hq
         ·rename_i c hc
          split at hq
          ·rename_i p' hp
           split at hq
           ·cases hq
           ·rename_i hn
            cases hq
            exact PWops.ldV hop hg hd hx (by simp only [PS.only,h1,if_true];exact h2) hc h3 (by simpa using ha) hp (by simpa using hn) hb k
          ·cases hq
         ·cases hq
       ·cases hq
      ·cases hq
     ·cases hq
    ·exact PWops.applyE hg rfl hb h k
 ·cases h
theorem PWops.doneI {l:List (Nat×Oper)} (h:l.isEmpty=true) (k:K σ):PWops P T ops base ok l K σ:=by
 cases l with
 |nil=>exact k
 |cons x l=>cases h
def isQuo:Op→Bool
 | .binOp .quo _ _ _ _=>true
 |_=>false
def isRem:Op→Bool
 | .binOp .rem _ _ _ _=>true
 |_=>false
theorem PWops.remK {d:Nat} {x y:Int} (hk:isRem o.op=true) (hg:pguard ops σ o=some true) (hd:o.dst=some d) (hE:feff (presE T (headB ops o.dst) (base+i) (σ.only (ok i)) o.op)=some (.val (.int .i64 (x.tmod y)))) (h:0≤x∧0≤y) (hb:σ.freeB (base+i)=true) (k:PWops P T ops base ok rest K (σ.put d (.val (.int .i64 (x % y))))):PWops P T ops base ok ((i,o) :: rest) K σ:=
 PWops.int _ hg hd hE (Int.tmod_eq_emod_of_nonneg h.1) hb k
theorem PWops.quoK {d:Nat} {x y:Int} (hk:isQuo o.op=true) (hg:pguard ops σ o=some true) (hd:o.dst=some d) (hE:feff (presE T (headB ops o.dst) (base+i) (σ.only (ok i)) o.op)=some (.val (.int .i64 (IntKind.i64.wrap (x.tdiv y))))) (h:0≤x∧0 < y∧x≤9223372036854775807) (hb:σ.freeB (base+i)=true) (k:PWops P T ops base ok rest K (σ.put d (.val (.int .i64 (x / y))))):PWops P T ops base ok ((i,o) :: rest) K σ:=by
 have h1:x.tdiv y=x / y:=Int.tdiv_eq_ediv_of_nonneg h.1
 have h2:0≤x / y:=Int.ediv_nonneg h.1 (by omega)
 have h3:x / y≤x:=Int.ediv_le_self _ h.1
 exact PWops.int _ hg hd hE (by rw [h1,wrap64_id (by omega) (by omega)]) hb k
theorem PWops.idd {l:List (Nat×Oper)} (h:PWops P T ops base ok l K σ):PWops P T ops base ok l K σ:=h
theorem PW.idd {M:Nat} {c:Code} {Q:Exit→PS→Prop} (h:PW P M c Q σ):PW P M c Q σ:=h
theorem PWops.slcRL {α:Type} {d e by_ n k:Nat} {zl:Int} {kl:IntKind} {f:α→List PV} {L:List α} {zr:List PV} {own:Option TypeId} {x lo:Operand} {t:TypeId} {ti:TyI} (hg:pguard ops σ o=some true) (hd:o.dst=some d) (hop:o.op = .slice t x (some lo) none none) (hx:pev σ x = .sl n k (L.flatMap f) own) (hlo:pev σ lo = .val (.int kl zl)) (ht:T.at t=some ti) (hk:ti.kind = .slice e k by_ zr) (hb:σ.freeB (base+i)=true)
  (hf:∀x,(f x).length=k) (h1:0≤zl∧zl≤n∧n=L.length) (kn:PWops P T ops base ok rest K (σ.put d (.sl (L.drop zl.toNat).length k ((L.drop zl.toNat).flatMap f) none))):PWops P T ops base ok ((i,o) :: rest) K σ:=by
 refine PWops.slc zl.toNat n hg hd hop hx ht hk hb rfl ?_ ?_
 ·simp only [Option.map_some,hlo,pbound];rw [if_pos ⟨h1.1,by omega⟩]
 ·have:PV.sl (n - zl.toNat) k (((L.flatMap f).drop (zl.toNat * k)).take ((n - zl.toNat) * k)) none = .sl (L.drop zl.toNat).length k ((L.drop zl.toNat).flatMap f) none:=by
   refine sl_eq (by rw [List.length_drop];omega) ?_
   rw [flatMap_drop hf,List.take_of_length_le (by rw [flatMap_len hf,List.length_drop,h1.2.2];exact Nat.le_refl _)]
  rw [this];exact kn
theorem PWops.slcRH {α:Type} {d e by_ n k:Nat} {zh:Int} {kh:IntKind} {f:α→List PV} {L:List α} {zr:List PV} {own:Option TypeId} {x hi:Operand} {t:TypeId} {ti:TyI} (hg:pguard ops σ o=some true) (hd:o.dst=some d) (hop:o.op = .slice t x none (some hi) none) (hx:pev σ x = .sl n k (L.flatMap f) own) (hhi:pev σ hi = .val (.int kh zh)) (ht:T.at t=some ti) (hk:ti.kind = .slice e k by_ zr) (hb:σ.freeB (base+i)=true)
  (hf:∀x,(f x).length=k) (h1:0≤zh∧zh≤n∧n=L.length) (kn:PWops P T ops base ok rest K (σ.put d (.sl (L.take zh.toNat).length k ((L.take zh.toNat).flatMap f) none))):PWops P T ops base ok ((i,o) :: rest) K σ:=by
 refine PWops.slc 0 zh.toNat hg hd hop hx ht hk hb ?_ rfl ?_
 ·simp only [Option.map_some,hhi,pbound];rw [if_pos ⟨h1.1,h1.2.1⟩]
 ·have:PV.sl (zh.toNat - 0) k (((L.flatMap f).drop (0 * k)).take ((zh.toNat - 0) * k)) none = .sl (L.take zh.toNat).length k ((L.take zh.toNat).flatMap f) none:=by
   refine sl_eq (by rw [List.length_take];omega) ?_
   rw [Nat.zero_mul,List.drop_zero,Nat.sub_zero,flatMap_take hf]
  rw [this];exact kn
end
section
open Go.RowKit
theorem Weak.sl {n k:Nat} {own:Option TypeId} {ps qs:List PV} (h:WeakL ps qs):Weak (.sl n k ps own) (.sl n k qs none):=by
 refine ⟨fun Φ μ v hr=>?_,fun e=>by simp [PV.ownB] at e⟩
 cases hr with
 |sl0 _ _ a cap hc=>
  cases h
  exact .sl0 _ _ _ _ hc
 |sl _ _ _ _ b off cap us h1 h2 h3 hp hr=>
  have hl:=h.len
  refine .sl n k qs none b off cap us (by rw [←hl];exact h1) h2 h3 (fun j hj=>hp j (by rw [hl];exact hj)) (fun j c hj=>?_)
  obtain ⟨p,hpj,hw⟩:=h.get j c hj
  exact hw.1 _ _ _ (hr j p hpj)
theorem WeakL.refl:∀(ps:List PV),WeakL ps ps
 | []=>.nil
 |p :: ps=>.cons (.refl p) (WeakL.refl ps)
theorem PCalls.args {P:Program} {f:FuncId} {ps qs:List PV} {post:PV→Prop} (h:PCalls P f qs post) (hw:WeakL ps qs):PCalls P f ps post:=by
 refine ⟨h.1,fun Φ μ w vs himm hgl hr=>h.2 Φ μ w vs himm hgl ⟨by rw [hr.1,hw.len],fun j c u hc hu=>?_⟩⟩
 obtain ⟨p,hp,hw'⟩:=hw.get j c hc
 exact hw'.1 _ _ _ (hr.2 j p u hp hu)
def defOf (a:Nat):List Oper→Nat→Option (Nat×Op)
 | [],_=>none
 |o :: r,k=>match o.dst with
  |some d=>if Nat.beq d a then some (k,o.op) else defOf a r (k+1)
  |none=>defOf a r (k+1)
def tgtGo (env:Nat→Option Nat) (base:Nat) (ops:List Oper):Nat→Nat→Option Nat
 |0,_=>none
 |n+1,a=>match defOf a ops 0 with
  |some (k, .alloc _)=>some (base+k)
  |some (k, .box _ _)=>some (base+k)
  |some (_, .fieldAddr _ (.tmp b) _)=>tgtGo env base ops n b
  |some (_, .move (.tmp b))=>tgtGo env base ops n b
  |some (_, .nilCheck (.tmp b))=>tgtGo env base ops n b
  |some (_, .indexAddr _ (.tmp b) _)=>tgtGo env base ops n b
  |some (_, .slice _ (.tmp b) _ _ _)=>tgtGo env base ops n b
  |some _=>none
  |none=>env a
def tgtOf (env:Nat→Option Nat) (base:Nat) (ops:List Oper) (o:Oper):Option Nat:=match o.op with
 | .store _ (.tmp a) _=>tgtGo env base ops 6 a
 | .load _ (.tmp a)=>tgtGo env base ops 6 a
 |_=>none
def envOf (σ:PS) (a:Nat):Option Nat:=match σ.t a with
 | .ptr id _=>some id
 | .msl id _ _ _=>some id
 |_=>none
theorem ren_eqlow {κ:Nat→Nat} {S:Nat→Prop} {q p:PV} (h:q=p) (hl:Low q):Ren κ S q p:=by subst h;exact .low _ hl
theorem plain_int (k:IntKind) (z:Int):plainV (.int k z)=true:=rfl
theorem pcGetInts (bs:List Int) (hby:Byte bs) (hl:bs.length≤1000000000):PCalls Tryd.prog 71 [pbytes bs] (· = .tup [pints (getInts bs).1,pint (getInts bs).2.1,pint (getInts bs).2.2]):=
 pcalls1 (by kernel_rfl) fun Φ μ w v himm hr=>(wireGetInts v bs w (bytes_of_rep himm hr) hby hl).mono (by
  rintro e w' ⟨u,rfl,ho,hb⟩
  exact post_tup3 himm (plain_int _) ho hb)
theorem pcGetStrs (bs:List Int) (hby:Byte bs) (hl:bs.length≤1000000000):PCalls Tryd.prog 72 [pbytes bs] (· = .tup [pstrs (getStrs bs).1,pint (getStrs bs).2.1,pint (getStrs bs).2.2]):=
 pcalls1 (by kernel_rfl) fun Φ μ w v himm hr=>(wireGetStrings v bs w (bytes_of_rep himm hr) hby hl).mono (by
  rintro e w' ⟨u,rfl,ho,hb⟩
  exact post_tup3 himm (fun _=>rfl) ho hb)
theorem pcClone (zs:List Int) (hl:zs.length≤1000000000):PCalls Tryd.prog 40 [pints zs] (· = pintsO zs):=
 pcalls1 (by kernel_rfl) fun Φ μ w v himm hr=>(slicesCloneI v zs w (ints_of_rep himm hr) hl).mono (by
  rintro e w' ⟨u,rfl,ho,hb⟩
  exact post_own himm (plain_int _) ho hb)
theorem pcInts (zs:List Int) (hf:Fit zs) (hl:zs.length≤1000000000):PCalls Tryd.prog 60 [pints zs] (· = pbytesO (intsB zs)):=
 pcalls1 (by kernel_rfl) fun Φ μ w v himm hr=>(wireInts v zs w (ints_of_rep himm hr) hf hl).mono (by
  rintro e w' ⟨u,rfl,ho,hb⟩
  exact post_own himm (plain_int _) ho hb)
def okF (env:Nat→Option Nat) (ban:Nat→Nat→Bool) (ops:List Oper) (base i id:Nat):Bool:=okD (clos ops) base ops.length i id && ((match (ops[i]?).bind (tgtOf env base ops) with|some k=>Nat.beq id k|none=>true) && !ban i id)
def sepF (env:Nat→Option Nat) (ban:Nat→Nat→Bool) (base:Nat) (ops:List Oper) (iy ix:Nat) (y x:Oper):Bool:=
 (match tgtOf env base ops y with|some k => !okF env ban ops base ix k|none=>false) || (match tgtOf env base ops x with|some k => !okF env ban ops base iy k|none=>false)
theorem sepF_ok {env:Nat→Option Nat} {ban:Nat→Nat→Bool} {ops:List Oper} {base iy ix:Nat} {y x:Oper} (hy:ops[iy]? = some y) (hx:ops[ix]? = some x) (hs:sepF env ban base ops iy ix y x=true) (j:Nat) (h1:okF env ban ops base iy j=true) (h2:okF env ban ops base ix j=true):False:=by
 have res:∀(i:Nat) o k,ops[i]? = some o→okF env ban ops base i j=true→tgtOf env base ops o=some k→j=k:=by
  intro i o k ho h hr
  simp only [okF,ho,Option.bind_some,hr,Bool.and_eq_true] at h
  exact Nat.eq_of_beq_eq_true h.2.1
 simp only [sepF,Bool.or_eq_true] at hs
 rcases hs with hs|hs
 ·cases hr:tgtOf env base ops y with
  |none=>rw [hr] at hs;cases hs
  |some k=>
   rw [hr] at hs
   have e:=res iy y k hy h1 hr
   subst e
   simp [h2] at hs
 ·cases hr:tgtOf env base ops x with
  |none=>rw [hr] at hs;cases hs
  |some k=>
   rw [hr] at hs
   have e:=res ix x k hx h2 hr
   subst e
   simp [h1] at hs
def indF (env:Nat→Option Nat) (ban:Nat→Nat→Bool) (base:Nat) (ops:Array Oper) (iy ix:Nat) (y x:Oper):Bool:=
 (match y.dst,x.dst with|some a,some b=>a != b|_,_=>true) &&
 (match y.dst with|some a => !(tmpsOf x.op.operands.toList).contains a && !(guardT ops x).contains a|none=>true) &&
 (match x.dst with|some b => !(tmpsOf y.op.operands.toList).contains b && !(guardT ops y).contains b|none=>true) &&
 (takesB (headB ops y.dst) y).all (fun s => !(takesB (headB ops x.dst) x).contains s) &&
 (!(mapW (headB ops y.dst) y && mapU x) && !(mapW (headB ops x.dst) x && mapU y)) &&
 ((!(storeB y && usesBox x) && !(storeB x && usesBox y) && !(isStore (headB ops y.dst) y && isStore (headB ops x.dst) x)) || sepF env ban base ops.toList iy ix y x)
def drawF (env:Nat→Option Nat) (ban:Nat→Nat→Bool) (base:Nat) (ops:List Oper):Bool:=
 let cl:=clos ops
 (indexed 0 ops).all fun x=>x.2.after.toList.all (fun e => !Region.binds .any e || decide (e.on < x.1)) &&
  (indexed 0 ops).all fun y => !decide (y.1 < x.1) || (cl.getD x.1 []).contains y.1 || indF env ban base ops.toArray y.1 x.1 y.2 x.2
end
section
open Go.RowKit
variable {P:Program} {T:Tab} {σ:PS} {ops:Array Oper} {base:Nat} {ok:Nat→Nat→Bool}
theorem ind_partsF {env:Nat→Option Nat} {ban:Nat→Nat→Bool} {eb:Nat} {iy ix:Nat} {y x:Oper} (h:indF env ban eb ops iy ix y x=true):Ind ops (sepF env ban eb ops.toList iy ix y x=true) y x:=by
 simp only [indF,Bool.and_eq_true,Bool.not_eq_true',Bool.or_eq_true (_ && _) (sepF _ _ _ _ _ _ _ _)] at h
 obtain ⟨⟨⟨⟨⟨h1,h2⟩,h3⟩,h4⟩,h6⟩,h5⟩:=h
 refine ⟨?_,?_,?_,?_,?_,?_,?_,?_,?_⟩
 ·intro a b ea eb
  rw [ea,eb] at h1
  simpa using h1
 ·intro a ea
  rw [ea] at h2
  simpa using h2
 ·intro a ea
  rw [ea] at h3
  simpa using h3
 ·intro s hs
  have:=List.all_eq_true.1 h4 s hs
  simpa using this
 ·intro e1 e2
  rcases h5 with h5|h5
  ·simp only [e1,e2,Bool.and_eq_true,Bool.not_eq_true',Bool.and_true,Bool.true_and] at h5
   simp at h5
  ·exact h5
 ·intro e1 e2
  rcases h5 with h5|h5
  ·simp only [e1,e2,Bool.and_eq_true,Bool.not_eq_true',Bool.and_true,Bool.true_and] at h5
   simp at h5
  ·exact h5
 ·intro e1 e2
  rcases h5 with h5|h5
  ·simp only [e1,e2,Bool.and_eq_true,Bool.not_eq_true',Bool.and_true,Bool.true_and] at h5
   simp at h5
  ·exact h5
 ·intro e1 e2
  have:=h6.1
  rw [e1,e2] at this;cases this
 ·intro e1 e2
  have:=h6.2
  rw [e1,e2] at this;cases this
end
section
open Go.RowKit
theorem PWops.bubbleF {P:Program} {T:Tab} {ops:Array Oper} {base:Nat} {ok:Nat→Nat→Bool} {env:Nat→Option Nat} {ban:Nat→Nat→Bool} {eb:Nat} {ix:Nat} {x:Oper} {post:List (Nat×Oper)} {Q:PS→Prop} : ∀(pre:List (Nat×Oper)) (σ:PS),(∀y∈pre,(indF env ban eb ops y.1 ix y.2 x=true∧(sepF env ban eb ops.toList y.1 ix y.2 x=true→∀j,ok y.1 j=true→ok ix j=true→False))∧y.1≠ix∧ok ix (base+y.1)=false∧ok y.1 (base+ix)=false) →
  PWops P T ops base ok (pre ++ (ix,x) :: post) Q σ→PWops P T ops base ok ((ix,x) :: (pre ++ post)) Q σ
 | [],σ,_,h=>h
 |(iy,y) :: pre,σ,hall,h=>by
  obtain ⟨h1,h2,h3,h4⟩:=hall (iy,y) (by simp)
  have ih:=PWops.bubbleF (P:=P) (T:=T) (ops:=ops) (base:=base) (ok:=ok) (env:=env) (ban:=ban) (eb:=eb) (ix:=ix) (x:=x) (post:=post) (Q:=Q) pre
  have:PWop P T ops base ok iy y (PWop P T ops base ok ix x (PWops P T ops base ok (pre ++ post) Q)) σ:=
   PWop.mono (fun σ' h' => ih σ' (fun z hz=>hall z (by simp [hz])) h') h
  exact PWop.swap (ind_partsF h1.1) h1.2 h2 h3 h4 this
theorem draw_partsF {env:Nat→Option Nat} {ban:Nat→Nat→Bool} {eb:Nat} {ops:List Oper} (h:drawF env ban eb ops=true):(∀(i:Nat) o,ops[i]? = some o→∀e∈o.after.toList,Region.binds .any e=true→e.on < i) ∧
  (∀(i j:Nat) x y,ops[i]? = some x→ops[j]? = some y→j < i→j∈(clos ops).getD i []∨indF env ban eb ops.toArray j i y x=true):=by
 have hm:∀(i:Nat) o,ops[i]? = some o→(i,o)∈indexed 0 ops:=by
  have:∀(l:List Oper) (k i:Nat) o,l[i]? = some o→(k+i,o)∈indexed k l:=by
   intro l
   induction l with
   |nil=>intro k i o h;simp at h
   |cons p l ih=>
    intro k i o h
    cases i with
    |zero=>simp at h;subst h;simp [indexed]
    |succ i=>
     simp at h
     have:=ih (k+1) i o h
     simp only [indexed,List.mem_cons]
     right
     rw [show k+(i+1)=k+1+i by omega];exact this
  intro i o h
  have:=this ops 0 i o h
  rwa [Nat.zero_add] at this
 simp only [drawF] at h
 have h':=List.all_eq_true.1 h
 refine ⟨fun i o ho e he hb=>?_,fun i j x y hx hy hji=>?_⟩
 ·have:=h' _ (hm i o ho)
  simp only [Bool.and_eq_true] at this
  have:=List.all_eq_true.1 this.1 e he
  simpa [hb] using this
 ·have:=h' _ (hm i x hx)
  simp only [Bool.and_eq_true] at this
  have:=List.all_eq_true.1 this.2 _ (hm j y hy)
  simp only [hji,decide_true,Bool.not_true,Bool.false_or,Bool.or_eq_true,List.contains_iff_mem] at this
  exact this
end
section
open Go.RowKit
variable {Φ0:Ent} {W:World} {M:Nat} {P:Program} {T:Tab} {ops:List Oper} {base:Nat} {env:Nat→Option Nat} {ban:Nat→Nat→Bool}
theorem any_soundF (hT:T=tabOf P) (hbase:base+ops.toArray.size≤1000000) (hall:∀(j:Nat) o,ops.toArray[j]? = some o→dstB M o=true) (hdraw:drawF env ban base ops=true) {Q:PS→Prop} {Q' : Exit→Act→World→Prop} (hQ:∀σ a w,Q σ→Rel Φ0 W M σ a w→Q' .normal a w) {r:Option Nat} :
  ∀(fuel:Nat) (listed:Array Bool) (σ:PS) (a:Act) (w:World),unlisted listed≤fuel→listed.size=ops.length→(∀(i:Nat) o,ops[i]? = some o→listed.getD i false=true→∀j,depO o j=true→listed.getD j false=true) →
   PWops P T ops.toArray base (okF env ban ops base) ((indexed 0 ops).filter fun x => !listed.getD x.1 false) Q σ→Rel Φ0 W M σ a w→wpAnyIn (FW r) 0 P .any ops.toArray Q' fuel listed a w:=by
 obtain ⟨hE,hI⟩:=draw_partsF hdraw
 have hsz:∀listed:Array Bool,listed.size=ops.length→listed.size=ops.toArray.size:=fun l h=>by simpa using h
 have fin:∀(listed:Array Bool) (σ:PS) (a:Act) (w:World),listed.size=ops.length→(∀i,i < ops.length→listed.getD i false=true) →
   PWops P T ops.toArray base (okF env ban ops base) ((indexed 0 ops).filter fun x => !listed.getD x.1 false) Q σ→Rel Φ0 W M σ a w→Q' .normal a w:=by
  intro listed σ a w hs hl h hr
  have:((indexed 0 ops).filter fun x => !listed.getD x.1 false) = []:=by
   rw [List.filter_eq_nil_iff]
   intro x hx
   obtain ⟨-,h2⟩:=indexed_mem 0 ops x hx
   have:x.1 < ops.length:=by have:=(List.getElem?_eq_some_iff.1 h2).1;omega
   simp [hl x.1 this]
  rw [this] at h
  exact hQ σ a w h hr
 have alls:∀listed:Array Bool,listed.size=ops.length→Region.ready .any ops.toArray listed = []→∀i,i < ops.length→listed.getD i false=true:=by
  intro listed hs hr i
  induction i using Nat.strongRecOn with
  |_ i ih=>
   intro hi
   have ho:ops.toArray[i]? = some ops[i]:=by simp [hi]
   cases hl:listed.getD i false with
   |true=>rfl
   |false=>
    have:i∈Region.ready .any ops.toArray listed:=(mem_ready (hsz listed hs)).2 ⟨ops[i],ho,hl,fun j hj=>by
     obtain ⟨e,he,hb,rfl⟩:=depO_iff.1 hj
     have:=hE i ops[i] (by simp [hi]) e he hb
     exact ih e.on this (by omega)⟩
    rw [hr] at this;cases this
 intro fuel
 induction fuel with
 |zero=>
  intro listed σ a w hu hs hcl h hr
  have hl:=unlisted_zero (Nat.le_zero.1 hu)
  rw [hs] at hl
  refine ⟨?_,fin listed σ a w hs hl h hr⟩
  apply List.eq_nil_iff_forall_not_mem.2
  intro i hi
  obtain ⟨o,ho,h1,_⟩:=(mem_ready (hsz listed hs)).1 hi
  rw [hl i (by have:=(Array.getElem?_eq_some_iff.1 ho).1;simpa using this)] at h1
  cases h1
 |succ fuel ih=>
  intro listed σ a w hu hs hcl h hr
  refine ⟨fun hrd=>fin listed σ a w hs (alls listed hs hrd) h hr,fun i hi=>?_⟩
  obtain ⟨o,ho,h1,h2⟩:=(mem_ready (hsz listed hs)).1 hi
  have ho' : ops[i]? = some o:=by simpa using ho
  have hil:i < ops.length:=(List.getElem?_eq_some_iff.1 ho').1
  have hmem:(i,o)∈(indexed 0 ops).filter fun x => !listed.getD x.1 false:=by
   rw [List.mem_filter]
   refine ⟨?_,by simp [h1]⟩
   have:∀(l:List Oper) (k i:Nat) o,l[i]? = some o→(k+i,o)∈indexed k l:=by
    intro l
    induction l with
    |nil=>intro k i o h;simp at h
    |cons p l ih=>
     intro k i o h
     cases i with
     |zero=>simp at h;subst h;simp [indexed]
     |succ i=>
      simp at h
      have:=ih (k+1) i o h
      simp only [indexed,List.mem_cons]
      right
      rw [show k+(i+1)=k+1+i by omega];exact this
   have:=this ops 0 i o ho'
   rwa [Nat.zero_add] at this
  obtain ⟨pre,post,hL⟩:=List.append_of_mem hmem
  have hsort:((indexed 0 ops).filter fun x => !listed.getD x.1 false).Pairwise (fun a b=>a.1 < b.1):=(indexed_sorted 0 ops).filter _
  rw [hL] at h hsort
  rw [List.pairwise_append] at hsort
  obtain ⟨-,hs2,hs3⟩:=hsort
  rw [List.pairwise_cons] at hs2
  have hpre:∀y∈pre,y.1 < i:=fun y hy=>hs3 y hy (i,o) (by simp)
  have hpost:∀y∈post,i < y.1:=fun y hy=>hs2.1 y hy
  have hprem:∀y∈pre,ops[y.1]? = some y.2∧listed.getD y.1 false=false:=by
   intro y hy
   have:y∈(indexed 0 ops).filter fun x => !listed.getD x.1 false:=by rw [hL];simp [hy]
   rw [List.mem_filter] at this
   obtain ⟨-,q⟩:=indexed_mem 0 ops y this.1
   exact ⟨by simpa using q,by simpa using this.2⟩
  have hb:=PWops.bubbleF (P:=P) (T:=T) (base:=base) (ok:=okF env ban ops base) (env:=env) (ban:=ban) (eb:=base) (ix:=i) (x:=o) (post:=post) (Q:=Q) pre σ (by
   intro y hy
   obtain ⟨q1,q2⟩:=hprem y hy
   have hlt:=hpre y hy
   have hnc:y.1∉(clos ops).getD i []:=fun hc=>by
    rw [clos_listed hE hcl i o ho' h2 y.1 hc] at q2;cases q2
   have hyl:y.1 < ops.length:=(List.getElem?_eq_some_iff.1 q1).1
   refine ⟨⟨by simpa using (hI i y.1 o y.2 ho' q1 hlt).resolve_left hnc,fun hs j hj1 hj2=>sepF_ok (ops:=ops) q1 ho' (by simpa using hs) j hj1 hj2⟩,by omega,?_,?_⟩
   ·rw [okF,Bool.and_eq_false_iff];left
    simp only [okD,Bool.or_eq_false_iff,decide_eq_false_iff_not]
    refine ⟨⟨by omega,by omega⟩,?_⟩
    rw [Nat.add_sub_cancel_left]
    simpa using hnc
   ·rw [okF,Bool.and_eq_false_iff];left
    simp only [okD,Bool.or_eq_false_iff,decide_eq_false_iff_not]
    refine ⟨⟨by omega,by omega⟩,?_⟩
    rw [Nat.add_sub_cancel_left]
    have:i∉(clos ops).getD y.1 []:=fun hc=>by have:=clos_lt hE y.1 y.2 q1 i hc;omega
    simpa using this) h
  have hset:listed.getD i false=false:=h1
  have hlt:i < listed.size:=by rw [hs];exact hil
  have hrem:pre ++ post=(indexed 0 ops).filter fun x => !(listed.setIfInBounds i true).getD x.1 false:=by
   have e1:((indexed 0 ops).filter fun x => !(listed.setIfInBounds i true).getD x.1 false)=((indexed 0 ops).filter fun x => !listed.getD x.1 false).filter (fun x => !decide (x.1=i)):=by
    rw [List.filter_filter]
    congr 1
    funext x
    rw [getD_set _ _ _ hlt]
    cases listed.getD x.1 false<;>simp
   rw [e1,hL,List.filter_append,List.filter_cons]
   have e2:pre.filter (fun x => !decide (x.1=i))=pre:=List.filter_eq_self.2 (fun y hy=>by have:=hpre y hy;simp;omega)
   have e3:post.filter (fun x => !decide (x.1=i))=post:=List.filter_eq_self.2 (fun y hy=>by have:=hpost y hy;simp;omega)
   rw [e2,e3]
   simp
  have hcl' : ∀(k:Nat) p,ops[k]? = some p→(listed.setIfInBounds i true).getD k false=true→∀j,depO p j=true→(listed.setIfInBounds i true).getD j false=true:=by
   intro k p hp hk j hj
   rw [getD_set _ _ _ hlt] at hk ⊢
   simp only [Bool.or_eq_true,decide_eq_true_eq] at hk ⊢
   rcases hk with rfl|hk
   ·rw [ho'] at hp;cases hp;exact .inr (h2 j hj)
   ·exact .inr (hcl k p hp hk j hj)
  have hstep:=op_sound (Φ0:=Φ0) (W:=W) (M:=M) hT hall (base:=base) hbase ho (K':=wpAnyIn (FW r) 0 P .any ops.toArray Q' fuel (listed.setIfInBounds i true)) (Q':=Q') (fun σ' a' w' hk hr' => ih (listed.setIfInBounds i true) σ' a' w' (by have:=unlisted_set listed i hlt hset;omega) (by simpa using hs) hcl' (by rw [←hrem];exact hk) hr') hb hr
  unfold wpOpIn
  rw [ho]
  simp only
  split
  ·rename_i hw;rw [if_pos hw] at hstep;exact wpIn_of_wp (dstB_defer (hall i o ho)) hstep
  ·rename_i hw;rw [if_neg hw] at hstep;exact ⟨fun _ _=>trivial,hstep⟩
theorem PW.drawF (ban:Nat→Nat→Bool) {Q:Exit→PS→Prop} {σ:PS} (hT:T=tabOf P) (hm:P.follows .mixedOrders=true) {id:Nat} (hall2:(ops.all (dstB M) && Nat.ble (1000 * id+ops.length) 1000000)=true) (hd:drawF (envOf σ) ban (1000 * id) ops=true)
  (h:PWops P T ops.toArray (1000 * id) (okF (envOf σ) ban ops (1000 * id)) (indexed 0 ops) (Q .normal) σ):PW P M (.region id ops.toArray true) Q σ:=by
 intro Φ0 W a w hr
 have hall2':=hall2
 simp only [Bool.and_eq_true] at hall2'
 obtain ⟨hall,hb0⟩:=hall2'
 have hbase:=Nat.le_of_ble_eq_true hb0
 refine wpIn_region_any hm ?_
 obtain ⟨Φ,μ,ω,hg⟩:=hr
 refine any_soundF (Φ0:=Φ0) (W:=W) (M:=M) (base:=1000 * id) (env:=envOf σ) (ban:=ban) (Q:=Q .normal) hT (by simpa using hbase) (by
  intro j o hj
  exact List.all_eq_true.1 hall o (mem_of_get (by simpa using hj))) hd (fun σ a w hq hrel=>⟨_,Φ0,W,hq,Later.refl _ _,hrel⟩) _ _ σ a _ ?_ (by simp) ?_ ?_ ⟨Φ,μ,ω,hg.drew⟩
 ·unfold unlisted
  exact Nat.le_trans List.countP_le_length (by simp)
 ·intro i o ho hl
  simp [Array.getD_eq_getD_getElem?,Array.getElem?_replicate] at hl
  split at hl<;>simp_all
 ·have:((indexed 0 ops).filter fun x => !(Array.replicate ops.toArray.size false).getD x.1 false)=indexed 0 ops:=by
   rw [List.filter_eq_self]
   intro x _
   simp [Array.getD_eq_getD_getElem?,Array.getElem?_replicate]
   split<;>rfl
  rw [this]
  exact h
end
section
open Go.RowKit
open Classical in
noncomputable def freshI (I0 Φ:Imm) (ω:Nat→Option Who):Imm:=fun b o=>if ∃p,ω b=some p then I0 b o else Φ b o
theorem freshI_eq {I0 Φ:Imm} {ω:Nat→Option Who} {b o:Nat} (h:∀p,ω b≠some p):freshI I0 Φ ω b o=Φ b o:=by
 unfold freshI
 rw [if_neg]
 rintro ⟨p,e⟩
 exact h p e
theorem freshI_own {I0 Φ:Imm} {ω:Nat→Option Who} {b o:Nat} (h:∃p,ω b=some p):freshI I0 Φ ω b o=I0 b o:=by
 unfold freshI
 rw [if_pos h]
end
section
open Go.RowKit
variable {Φ0:Ent} {W:World} {M:Nat} {Φ:Imm} {μ:Nat→Option Nat} {ω:Nat→Option Who} {σ:PS} {a:Act} {w:World} {P:Program}
theorem RelG.freshSub (h:RelG Φ0 W M Φ μ ω σ a w) {b o:Nat} {u:Value} (e:freshI Φ0.imm Φ ω b o=some u):Φ b o=some u:=by
 unfold freshI at e
 split at e
 ·exact (h.ext b o u e).1
 ·exact e
theorem RelG.freshGlob (h:RelG Φ0 W M Φ μ ω σ a w):GlobOK (freshI Φ0.imm Φ ω):=by
 intro x hx j z e
 unfold freshI
 split
 ·exact Φ0.glob x hx j z e
 ·exact h.glob x hx j z e
theorem RelG.freshMix (h:RelG Φ0 W M Φ μ ω σ a w) {g:Nat} (hg:∃p,ω g=some p):Mix (freshI Φ0.imm Φ ω) g:=by
 have hm:Mix Φ0.imm g:=by
  obtain ⟨p,e⟩:=hg
  rcases h.mine g p e with h' | h'
  ·intro o u e'; have:=(h.ext g o u e').2;omega
  ·exact Φ0.fl g h'
 intro o u e
 rw [freshI_own hg] at e
 obtain ⟨o',u',e1,e2⟩:=hm o u e
 exact ⟨o',u',by rw [freshI_own hg];exact e1,e2⟩
noncomputable def RelG.freshE (h:RelG Φ0 W M Φ μ ω σ a w) (mu:Nat→Option Nat):Ent:=
 ⟨freshI Φ0.imm Φ ω,fun g=>∃p,ω g=some p,mu,h.freshGlob,fun _ hg=>h.freshMix hg,Φ0.marks,Φ0.round⟩
theorem RelG.rebase (h:RelG Φ0 W M Φ μ ω σ a w) {Φ1:Ent} {W1:World} (hb:Kept (Old Φ1 W1) W1 w) (hd:a.defers=Φ1.marks.map collD∧RndOK Φ1 W1) (ho:∀b o,Old Φ1 W1 b→Φ b o=Φ1.imm b o)
  (hg:∀id g,Φ1.mu id=some g→1000000≤id) (hk:∀id g,Φ1.mu id=some g→(σ.b id≠none∨σ.m id≠none)→μ id=some g) (he:∀b o u,Φ1.imm b o=some u→Φ b o=some u∧b < W1.heap.size) (hm:∀g p,ω g=some p→Mine Φ1 W1 g):RelG Φ1 W1 M Φ μ ω σ a w:=
 ⟨hb,hd,h.size,h.imm,ho,h.tmps,fun t n k cs E e=>(h.own t n k cs E e).inB (fun g e=>hm g _ e),fun id bs e=>(h.box id bs e).inB (fun g q _ e=>hm g q e),h.gone,h.lt,hg,hk,he,fun id X e=>(h.map id X e).inB (fun g q _ e=>hm g q e),hm⟩
theorem RelG.noOld (h:RelG Φ0 W M Φ μ ω σ a w) {b:Nat} (hb:Old Φ0 W b):∀p,ω b≠some p:=fun p e=>(h.mine b p e).ne hb rfl
theorem RelG.rnd (h:RelG Φ0 W M Φ μ ω σ a w) {l:Nat} (e:Φ0.round=some l):l < w.heap.size∧(∀p,ω l≠some p)∧∃r,w.heap[l]? = some (.loop r):=by
 obtain ⟨h1,r,h2⟩:=h.defers.2 l e
 exact ⟨Nat.lt_of_lt_of_le h1.1 h.below.size,h.noOld h1,r,(h.below.block l h1).trans h2⟩
theorem RelG.fresh0 (h:RelG Φ0 W M Φ μ ω σ a w) {mu:Nat→Option Nat} (hg:∀id g,mu id=some g→1000000≤id) (hk:∀id g,mu id=some g→(σ.b id≠none∨σ.m id≠none)→μ id=some g):RelG (h.freshE mu) w M Φ μ ω σ a w:=by
 refine h.rebase (Kept.refl _ _) ⟨h.defers.1,fun l e=>?_⟩ (fun b o hb=>(freshI_eq fun p e=>hb.2 ⟨p,e⟩).symm) hg hk (fun b o u e=>⟨h.freshSub e,RelG.fresh h (h.freshSub e)⟩) (fun g p e=>.inr ⟨p,e⟩)
 obtain ⟨h1,h2,h3⟩:=h.rnd e
 exact ⟨⟨h1,fun ⟨p,hp⟩=>h2 p hp⟩,h3⟩
structure Since (Φ:Imm) (ω:Nat→Option Who) (w:World) (Φ' : Imm) (ω' : Nat→Option Who) (w' : World):Prop where
 kept:Kept (fun b=>b < w.heap.size∧∀p,ω b≠some p) w w'
 own:∀g p,ω' g=some p→(∃q,ω g=some q)∨w.heap.size≤g
 imm:∀b o,b < w.heap.size→(∀p,ω b≠some p)→Φ' b o=Φ b o
theorem RelG.since (h:RelG Φ0 W M Φ μ ω σ a w) {mu:Nat→Option Nat} {Φ2:Ent} {W2:World} (hl:Later (h.freshE mu) w Φ2 W2) {M' : Nat} {Φ' : Imm} {μ' : Nat→Option Nat} {ω' : Nat→Option Who} {σ' : PS} {a' : Act} {w' : World} (k:RelG Φ2 W2 M' Φ' μ' ω' σ' a' w'):Since Φ ω w Φ' ω' w':=by
 have hold:∀b,b < w.heap.size→(∀p,ω b≠some p)→Old (h.freshE mu) w b:=fun b h1 h2=>⟨h1,fun ⟨p,e⟩=>h2 p e⟩
 refine ⟨(hl.kept.trans (k.below.mono hl.old)).mono fun b hb=>hold b hb.1 hb.2,fun g p e=>?_,fun b o h1 h2=>?_⟩
 ·rcases hl.mine g (k.mine g p e) with h|h
  ·exact .inr h
  ·exact .inl h
 ·rw [k.old b o (hl.old b (hold b h1 h2)),hl.imm]
  exact freshI_eq h2
theorem RelG.unfresh (h:RelG Φ0 W M Φ μ ω σ a w) {Φ2:Ent} {W2:World} (hl:Later (h.freshE Φ0.mu) w Φ2 W2) {Φ' : Imm} {μ' : Nat→Option Nat} {ω' : Nat→Option Who} {σ' : PS} {a' : Act} {w' : World} (k:RelG Φ2 W2 M Φ' μ' ω' σ' a' w') :
  ∃Φ3 W3,Later Φ0 W Φ3 W3∧Φ3.marks=Φ2.marks∧RelG Φ3 W3 M Φ' μ' ω' σ' a' w':=by
 have hs:=h.since hl k
 obtain ⟨ms,e1,n1,h1⟩:=hl.marks
 have hsz:w.heap.size≤W2.heap.size:=hl.kept.size
 have hWw:=h.below.size
 have hext:∀b o u,Φ0.imm b o=some u→b < W.heap.size:=fun b o u e=>(h.ext b o u e).2
 have hmine2:∀g,Mine Φ2 W2 g→Mine Φ0 W g:=fun g hg=>by
  rcases hl.mine g hg with h' | ⟨p,h'⟩
  ·exact .inl (Nat.le_trans hWw h')
  ·exact h.mine g p h'
 let Φ3:Ent:=⟨Φ0.imm,fun g=>Mine Φ0 W g∧g < W2.heap.size∧g∉ms,Φ0.mu,Φ0.glob,fun g hg=>by
  rcases hg.1 with h' | h'
  ·intro o u e;have:=hext g o u e;omega
  ·exact Φ0.fl g h',Φ2.marks,Φ0.round⟩
 have holdc:∀b,Old Φ3 W2 b→Old Φ0 W b∨b∈ms:=by
  rintro b ⟨hb1,hb2⟩
  by_cases hm:b∈ms
  ·exact .inr hm
  ·left
   by_cases hmi:Mine Φ0 W b
   ·exact absurd ⟨hmi,hb1,hm⟩ hb2
   ·exact ⟨Nat.lt_of_not_le fun hh=>hmi (.inl hh),fun hh=>hmi (.inr hh)⟩
 have hold0:∀b,Old Φ0 W b→b < w.heap.size∧∀p,ω b≠some p:=fun b hb=>⟨Nat.lt_of_lt_of_le hb.1 hWw,h.noOld hb⟩
 have hold3:∀b,Old Φ0 W b→Old Φ3 W2 b:=fun b hb=>⟨Nat.lt_of_lt_of_le (hold0 b hb).1 hsz,fun hh=>hh.1.ne hb rfl⟩
 have holdf:∀b,Old Φ0 W b→Old Φ2 W2 b:=fun b hb=>hl.old b ⟨(hold0 b hb).1,fun ⟨p,e⟩=>(hold0 b hb).2 p e⟩
 have hkW2:Kept (Old Φ0 W) W W2:=h.below.trans (hl.kept.mono fun b hb=>⟨(hold0 b hb).1,fun ⟨p,e⟩=>(hold0 b hb).2 p e⟩)
 have hms:∀m∈ms,Old Φ3 W2 m:=fun m hm=>⟨(h1 m hm).2.1.1,fun hh=>hh.2.2 hm⟩
 have hlat:Later Φ0 W Φ3 W2:=by
  refine ⟨rfl,rfl,rfl,hkW2,hold3,fun g hg=>?_,fun b hb=>(holdc b hb).imp id (fun h=>by show b∈Φ2.marks;rw [e1];exact List.mem_append.2 (.inl h)),fun _=>hext,ms,e1,n1,fun m hm=>⟨Nat.le_trans hWw (h1 m hm).1,hms m hm,(h1 m hm).2.2⟩⟩
  rcases hg with h' | h'
  ·exact .inl (Nat.le_trans hkW2.size h')
  ·exact h'.1
 refine ⟨Φ3,W2,hlat,rfl,k.rebase (k.below.mono fun b hb=>?_) ⟨k.defers.1,fun l e=>?_⟩ (fun b o hb=>?_) h.gmu (fun i g e hi=>?_) (fun b o u e=>?_) (fun g p e=>?_)⟩
 ·rcases holdc b hb with h' | h'
  ·exact holdf b h'
  ·exact (h1 b h').2.1
 ·obtain ⟨q1,r,q2⟩:=h.defers.2 l e
  exact ⟨hold3 l q1,r,(hkW2.block l q1).trans q2⟩
 ·rcases holdc b hb with h' | h'
  ·rw [hs.imm b o (hold0 b h').1 (hold0 b h').2]
   exact h.old b o h'
  ·have e1:Φ' b o=none:=by
    cases hh:Φ' b o with
    |none=>rfl
    |some u=>
     have:=k.imm b o u hh
     have hd:=(k.below.block b (h1 b h').2.1).trans (h1 b h').2.2
     simp only [World.cell?,hd] at this
     cases this
   have e2:Φ0.imm b o=none:=by
    cases hh:Φ0.imm b o with
    |none=>rfl
    |some u=>have:=hext b o u hh;have:=(h1 b h').1;omega
   show _=Φ0.imm b o
   rw [e1,e2]
 ·exact k.kmu i g (by rw [hl.mu];exact e) hi
 ·have h3:=h.ext b o u e
  refine ⟨?_,Nat.lt_of_lt_of_le h3.2 hkW2.size⟩
  by_cases hω:∃p,ω b=some p
  ·refine (k.ext b o u ?_).1
   rw [hl.imm]
   exact (freshI_own hω).trans e
  ·rw [hs.imm b o (Nat.lt_of_lt_of_le h3.2 hWw) (fun p e=>hω ⟨p,e⟩)]
   exact h3.1
 ·have hm:=k.mine g p e
  by_cases hlt:g < W2.heap.size
  ·refine .inr ⟨hmine2 g hm,hlt,fun hh=>?_⟩
   exact hm.ne (h1 g hh).2.1 rfl
  ·exact .inl (Nat.le_of_not_lt hlt)
end
section
open Go.RowKit
variable {Φ0:Ent} {W:World} {M:Nat} {Φ:Imm} {μ:Nat→Option Nat} {ω:Nat→Option Who} {σ:PS} {a:Act} {w:World} {P:Program} {T:Tab}
theorem RelG.still (h:RelG Φ0 W M Φ μ ω σ a w) {g:Nat} {cur:Array Value} {Ty:TypeId} (hg:w.heap[g]? = some (.cells cur Ty (0,0))) (hB:Mine Φ0 W g) (hω:ω g=none) (hΦ:∀j,Φ g j=none):RelG Φ0 W M (immRow Φ g cur) μ ω σ a w:=by
 refine h.grow h.below ?_ ?_ ?_ ?_ (Nat.le_refl _)
 ·intro b o u e
  unfold immRow at e
  split at e
  ·subst b;simp only [World.cell?,hg];simpa using e
  ·exact h.imm b o u e
 ·intro b o hb;unfold immRow;rw [if_neg];rintro rfl;exact hB.ne hb rfl
 ·intro b o u e;unfold immRow;rw [if_neg]
  ·exact e
  ·rintro rfl;rw [hΦ] at e;cases e
 ·intro g' p e
  refine ⟨rfl,fun j=>?_⟩
  unfold immRow;rw [if_neg];rintro rfl;rw [hω] at e;cases e
theorem RelG.see (h:RelG Φ0 W M Φ μ ω σ a w) {s:Nat} {p:PV} (hp:Rep Φ μ p (a.tmps.getD s undef)) (ho:p.ownB=false):RelG Φ0 W M Φ μ ω (σ.put s p) a w:=by
 refine { h with tmps:=fun u=>?_,own:=fun u n k cs E e=>?_ }
 ·by_cases hu:u=s
  ·subst hu;simp only [PS.put,upd_if,if_true];exact hp
  ·simp only [PS.put,upd_if,if_neg hu];exact h.tmps u
 ·by_cases hu:u=s
  ·subst hu;simp only [PS.put,upd_if,if_true] at e;rw [e] at ho;simp [PV.ownB] at ho
  ·simp only [PS.put,upd_if,if_neg hu] at e ⊢; exact h.own u n k cs E e
theorem Sub.freeze {σ' : PS} {id s n k:Nat} {cs:List PV} (hb:σ.b id=some cs) (hs:σ.t s = .msl id 0 n k) (hl:cs.length=n * k) (hlow:∀c∈cs,Low c) (hsub:SubR (fun i=>i) (Kn σ') σ σ') (hid:σ'.freeB id=true):Sub M σ (σ'.put s (.sl n k cs none)):=by
 rintro Φ0 W a w ⟨Φ,μ,ω,hg⟩
 have h1:=hsub.rel (fun i hi=>hi.spec) (fun i j _ _ e=>e) (fun i _ _ _=>rfl) hg
 obtain ⟨g,cur,Ty,b1,b2,b3,b4,b5,b6,b7⟩:=hg.box id cs hb
 have hun:unren (fun i=>i) (Kn σ') (ω g)=none:=by
  rw [b4]
  unfold unren
  split
  ·rename_i h2;cases h2
  ·split
   ·rename_i hh
    obtain ⟨q,⟨i,hi,hq⟩,e⟩:=hh
    exfalso
    rcases hq with rfl|⟨j,rfl⟩
    ·simp only [renW,Option.some.injEq,Who.box.injEq] at e
     subst e
     rw [Kn,hid] at hi;cases hi
    ·simp [renW] at e
   ·rfl
 have h2:=h1.still b2 b3 hun b5
 refine ⟨_,_,_,h2.see ?_ rfl⟩
 have hv:=hg.tmps s
 rw [hs] at hv
 obtain ⟨ad,cap,hvv,c1,c2,c4⟩:=hv.msl_inv
 rw [hvv]
 rcases Nat.eq_zero_or_pos n with h0|h0
 ·subst h0
  have:cs = []:=List.eq_nil_of_length_eq_zero (by simpa using hl)
  subst this
  exact .sl0 _ _ _ _ (by assumption)
 ·obtain ⟨g',hg',rfl⟩:=c4 h0
  rw [b1] at hg'; cases hg'
  refine .sl n k cs none g 0 cap (fun j=>cur.getD j undef) hl (by assumption) (by assumption) (fun j hj=>?_) (fun j c hc=>?_)
  ·unfold immRow
   rw [if_pos rfl,Nat.zero_add,Array.getD_eq_getD_getElem?]
   rw [Array.getElem?_eq_getElem (by omega)];rfl
  ·obtain ⟨u,r1,r2,r3,-⟩:=b7 j c hc
   rw [Array.getD_eq_getD_getElem?,r1]
   refine Rep.mono (Φ:=Φ) (fun b o u e=>?_) (fun _ _ e=>e) (r3.low (hlow c (mem_of_get hc)))
   unfold immRow
   rw [if_neg]
   ·exact e
   ·rintro rfl;rw [b5] at e;cases e
theorem PW.freeze {σ' : PS} {id s n k:Nat} {cs:List PV} {c:Code} {Q:Exit→PS→Prop} (hb:σ.b id=some cs) (hs:σ.t s = .msl id 0 n k) (hl:cs.length=n * k) (hlow:∀c∈cs,Low c) (hsub:SubR (fun i=>i) (Kn σ') σ σ') (hid:σ'.freeB id=true) (h:PW P M c Q (σ'.put s (.sl n k cs none))):PW P M c Q σ:=
 h.sub (Sub.freeze hb hs hl hlow hsub hid)
end
section
open Go.RowKit
variable {P:Program} {T:Tab} {σ:PS} {o:Oper} {i base:Nat} {ops:Array Oper} {ok:Nat→Nat→Bool} {rest:List (Nat×Oper)} {K:PS→Prop}
theorem PWops.appM {d s n m k e by_ id off:Nat} {cs bs new zr:List PV} {x:Operand} {t:TypeId} {ti:TyI} (hT:T=tabOf P) (hg:pguard ops σ o=some true) (hok:∀j id,ok j id=true) (hd:o.dst=some d) (hop:o.op = .call { callee:=.builtin .append,args := #[.tmp s,x],argTypes := #[t,t] })
  (ht:T.at t=some ti) (hk:ti.kind = .slice e k by_ zr) (hs:asOwn e k (σ.t s)=some (n,cs)) (hfu:fullB e (σ.t s)=false) (hx:pev σ x = .msl id off m k) (hbs:σ.b id=some bs) (hle:off+m * k≤bs.length) (hnew:((bs.drop off).take (m * k)).map PV.bare=new) (he:Nat.blt e 1000000=true) (h1:(n+m) * by_≤140737488355328) (h2:n+m≤140737488355328)
  (kn:PWops P T ops base ok rest K ((σ.put s (σ.t s).bare).put d (.sl (n+m) k (cs ++ new) (some e)))):PWops P T ops base ok ((i,o) :: rest) K σ:=by
 subst hnew
 refine PWops.sem (E:=⟨.sl (n+m) k (cs ++ ((bs.drop off).take (m * k)).map PV.bare) (some e),[],some s,[]⟩) hg hok ?_ (by rw [hd];exact kn)
 intro Φ0 W M a w hM hrel
 obtain ⟨Φ,μ,ω,hr⟩:=hrel
 exact does_append_msl hr o hd (hM d hd) hop (tab_at hT ht) hk hs h1 h2 (by simpa [Nat.blt_eq] using he) (.inl hfu) hx hbs hle
end
end Go.Proofs.YtmeekbjhpidcgaaDoor
