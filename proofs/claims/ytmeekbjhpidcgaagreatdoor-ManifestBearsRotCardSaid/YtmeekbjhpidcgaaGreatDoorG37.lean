/- Out of: Ua2, Ub2, Uc2, Ud2, Tc, Ue2, Uf2, Ug2, To, Th, Ti, Tj, Uh2, Ui2, Uj2, Uk2. -/
import Derived.Test.YtmeekbjhpidcgaaGreatDoorG36
namespace Go.Proofs.YtmeekbjhpidcgaaGreatDoor
set_option linter.unusedSimpArgs false
set_option linter.unusedVariables false
set_option linter.unnecessarySimpa false
section
open Go.RowKit
set_option maxRecDepth 10000 in
set_option maxHeartbeats 1000000 in
theorem tc_TurnE1 (D:DM) (at_:Nat) (now m:PMan) (hv:m.ver=now.ver+1) (hv0:0≤now.ver∧now.ver < 1000000000) (hc:checkM 2 3 m≠0) (hcl:CloM m):HCalls Tryz.prog 30 [.ptr 1000004 0,pints m.notes,prefs m.refs] (tG 1000004 1000001 1000002 1000003 at_ now D) (dMs 1000003 D) (pint (checkM 2 3 m)) (tG 1000004 1000001 1000002 1000003 at_ now D) (dMs 1000003 D):=by
 have hlr:Low (prefs now.refs):=(low_prefs _).2 trivial
 have hlt:Low (pints now.notes):=(low_pints _).2 trivial
 have hmr:Low (prefs m.refs):=(low_prefs _).2 trivial
 have hmt:Low (pints m.notes):=(low_pints _).2 trivial
 refine th_of_pw Tryz.func30 rfl rfl (by intro p hp;rcases List.mem_cons.1 hp with rfl|hp;exact .ptr _ _ (by simp);rcases List.mem_cons.1 hp with rfl|hp;exact hmt.lowI;rcases List.mem_cons.1 hp with rfl|hp;exact hmr.lowI;cases hp) (by simp [pints,prefs,PV.ownB]) (Nat.le_of_ble_eq_true rfl) (Low.val _).lowI ?_
 have hck:=pw_mCheck m (by have:=hcl.1;omega) (by have:=hcl.2;omega)
 have hclo:=pw_clone m hcl
 generalize checkM 2 3 m=z at *
 obtain ⟨ver,notes,refs⟩:=m
 simp only at hv
 subst hv
 simp only at *
 have c1:=dC_low D
 have c2:=dM_low D
 refine wk ?_
 exact RetH.mk rfl (Weak.refl _) ⟨⟨_,rfl,WeakL.refl _⟩,⟨_,rfl,WeakL.refl _⟩,⟨_,rfl,WeakL.refl _⟩,trivial⟩ ⟨⟨rfl,rfl⟩,trivial⟩
set_option maxRecDepth 10000 in
set_option maxHeartbeats 1000000 in
theorem tc_Copies01 (D:DM) (at_:Nat) (now:PMan) (hop:D.op = []) (hdead:D.dead=false) (hv:now.ver=0):HCalls Tryz.prog 28 [.ptr 1000004 0] (tG 1000004 1000001 1000002 1000003 at_ now D) (dMs 1000003 D) (pint 2) (tG 1000004 1000001 1000002 1000003 at_ now D) (dMs 1000003 D):=by
 have hlr:Low (prefs now.refs):=(low_prefs _).2 trivial
 have hlt:Low (pints now.notes):=(low_pints _).2 trivial
 have c1:=dC_low D
 have c2:=dM_low D
 have hsp:=tc_spoiltB0 D at_ now hop hv
 have hdn:=dc_Down D 1000001 1000002 1000003 (by decide)
 rw [hdead] at hdn
 refine th_of_pw Tryz.func28 rfl rfl (by intro p hp;rcases List.mem_cons.1 hp with rfl|hp;exact .ptr _ _ (by simp);cases hp) (by simp [PV.ownB]) (Nat.le_of_ble_eq_true rfl) (.val _) ?_
 refine wk ?_
 exact RetH.mk rfl (Weak.refl _) ⟨⟨_,rfl,WeakL.refl _⟩,⟨_,rfl,WeakL.refl _⟩,⟨_,rfl,WeakL.refl _⟩,trivial⟩ ⟨⟨rfl,rfl⟩,trivial⟩
theorem renT_ptr {t d c m:Nat} : Ren (renN (tIds t d c m)) (fun i=>i ∈ [1000004,1000001,1000002,1000003]) (.ptr 1000004 0) (.ptr t 0):=.ptr _ _ (by simp)
theorem upTo_congr {c c' : Nat→Option (List Int)} : ∀(n a:Nat),(∀i,a≤i→i < a+n→c i=c' i)→upTo c a n=upTo c' a n
 |0,a,_=>rfl
 |n+1,a,h=>by
  rw [upTo,upTo,h a (Nat.le_refl _) (by omega)]
  cases c' a with
  |none=>rfl
  |some b=>simp only;rw [upTo_congr n (a+1) (fun i h1 h2=>h i (by omega) (by omega))]
theorem readT_congr {D E:DM} {at_ s:Nat} (h:∀i:Nat,at_+s * 256≤i→i < at_+s * 256+256→E.read (i:Int)=D.read (i:Int)):readT E at_ s=readT D at_ s:=by
 unfold readT
 rw [upTo_congr (c:=secD E) (c':=secD D) 256 (at_+s * 256) (fun i h1 h2=>by unfold secD;rw [h i h1 h2])]
theorem lastP_clear {at_:Nat} {q:Int} : ∀(l:List Int),lastP q (clearL at_ l)=if ∃s∈l,at_+s * 256=q then some zeroSec else none
 | []=>by simp [clearL,lastP]
 |s :: l=>by
  have ih:=lastP_clear (at_:=at_) (q:=q) l
  rw [clearL,List.map_cons,lastP]
  rw [clearL] at ih
  rw [ih]
  by_cases h:∃s∈l,(at_:Int)+s * 256=q
  ·rw [if_pos h]
   obtain ⟨x,hx,e⟩:=h
   simp only
   rw [if_pos ⟨x,List.mem_cons_of_mem _ hx,e⟩]
  ·rw [if_neg h]
   simp only
   by_cases e:(at_:Int)+s * 256=q
   ·rw [if_pos e,if_pos ⟨s,List.mem_cons_self ..,e⟩]
   ·rw [if_neg e,if_neg]
    rintro ⟨x,hx,e2⟩
    rcases List.mem_cons.1 hx with rfl|hx
    ·exact e e2
    ·exact h ⟨x,hx,e2⟩
theorem read_clr {n k:Nat} {D:DM} (h:OkD n k D) {at_:Nat} {l:List Int} (hl:∀s∈l,0≤s∧s≤3) (hn:at_+1024≤n) (hk:k+l.length≤100000000) {q:Int} (q0:0≤q) (q1:q < n):(D.clr at_ l).read q=if ∃s∈l,at_+s * 256=q then (zeroSec,0) else D.read q:=by
 have hcl:(clearL at_ l).length=l.length:=by simp [clearL]
 obtain ⟨o1,-⟩:=OkD.puts (clearL at_ l) h (clearL_in hl hn) (by omega)
 unfold DM.clr
 rw [o1.read_sync (by omega) q0 q1,OkD.read_puts _ h (clearL_in hl hn) (by omega) q0 q1,lastP_clear]
 by_cases e:∃s∈l,(at_:Int)+s * 256=q
 ·rw [if_pos e,if_pos e]
 ·rw [if_neg e,if_neg e]
theorem lastP_blks {a:Nat} {S:List Int} {q:Int} : lastP q (blksL a S)=if (a:Int)≤q∧q < a+((S.length+63) / 64:Nat) then some (secOf (blk S (q - a).toNat)) else none:=by
 unfold blksL
 generalize (S.length+63) / 64=N
 have h:∀(l:List Nat),l.Pairwise (· < ·)→lastP q (l.map fun i=>(⟨((a+i:Nat):Int),secOf (blk S i)⟩:PPut))=if (a:Int)≤q∧(q - a).toNat∈l then some (secOf (blk S (q - a).toNat)) else none:=by
  intro l
  induction l with
  |nil=>intro _;simp [lastP]
  |cons x l ih=>
   intro hp
   rw [List.pairwise_cons] at hp
   rw [List.map_cons,lastP,ih hp.2]
   by_cases h1:(a:Int)≤q∧(q - a).toNat∈l
   ·rw [if_pos h1]
    simp only
    rw [if_pos ⟨h1.1,List.mem_cons_of_mem _ h1.2⟩]
   ·rw [if_neg h1]
    simp only
    by_cases h2:((a+x:Nat):Int)=q
    ·have h3:(q - a).toNat=x:=by omega
     rw [if_pos h2,if_pos ⟨by omega,by rw [h3];exact List.mem_cons_self ..⟩,h3]
    ·rw [if_neg h2,if_neg]
     rintro ⟨h3,h4⟩
     rcases List.mem_cons.1 h4 with h4|h4
     ·exact h2 (by omega)
     ·exact h1 ⟨h3,h4⟩
 rw [h (List.range N) List.pairwise_lt_range]
 by_cases h1:(a:Int)≤q∧q < a+(N:Nat)
 ·rw [if_pos h1,if_pos ⟨h1.1,List.mem_range.2 (by omega)⟩]
 ·rw [if_neg h1,if_neg]
  rintro ⟨h2,h3⟩
  rw [List.mem_range] at h3
  exact h1 ⟨h2,by omega⟩
theorem read_wr {n k:Nat} {D:DM} (h:OkD n k D) {at_ slot:Nat} {m:PMan} (hs:slot≤3) (hn:at_+1024≤n) (hS:(slotM hfT m).length≤16384) (hk:k+256≤100000000) {q:Int} (q0:0≤q) (q1:q < n) :
  (D.wr at_ slot m).read q=if ((at_+slot * 256:Nat):Int)≤q∧q < (at_+slot * 256:Nat)+(((slotM hfT m).length+63) / 64:Nat) then (secOf (blk (slotM hfT m) (q - (at_+slot * 256:Nat)).toNat),0) else D.read q:=by
 obtain ⟨i1,i2⟩:=blksL_in (at_:=at_) hs hn hS
 unfold DM.wr
 generalize slotM hfT m=S at *
 rw [OkD.read_puts _ h i1 (by omega) q0 q1,lastP_blks]
 by_cases e:((at_+slot * 256:Nat):Int)≤q∧q < (at_+slot * 256:Nat)+((S.length+63) / 64:Nat)
 ·rw [if_pos e,if_pos e]
 ·rw [if_neg e,if_neg e]
theorem readT_wr {n k:Nat} {D:DM} (h:OkD n k D) {at_ slot:Nat} {m:PMan} (hs:slot≤3) (hn:at_+1024≤n) (hS:(slotM hfT m).length≤16384) (hk:k+256≤100000000) (hc:checkM 1 2 m=0) (hd:DigsOK m) (hby:∀c∈slotM hfT m,0≤c∧c < 256):readT (D.wr at_ slot m) at_ slot=some m:=by
 have hsec:∀i:Nat,64 * i < (slotM hfT m).length→secD (D.wr at_ slot m) (at_+slot * 256+i)=some (blk (slotM hfT m) i):=by
  intro i hi
  have hr:=read_wr h (at_:=at_) (slot:=slot) (m:=m) hs hn hS hk (q:=((at_+slot * 256+i:Nat):Int)) (by omega) (by generalize slotM hfT m=S at *; omega)
  unfold secD
  generalize D.wr at_ slot m=E at *
  generalize slotM hfT m=S at *
  rw [if_pos ⟨by omega,by omega⟩,show (((at_+slot * 256+i:Nat):Int) - ((at_+slot * 256:Nat):Int)).toNat=i by omega] at hr
  rw [hr]
  show some (secOf (blk S i)).1=_
  rw [secOf_eq (blk_byte hby i)]
 obtain ⟨W,hW⟩:∃W:Nat→List Int,W=fun i=>(secD (D.wr at_ slot m) i).getD (List.replicate 64 0):=⟨_,rfl⟩
 have hW64:∀i,(W i).length=64:=by
  intro i
  rw [hW]
  show ((secD (D.wr at_ slot m) i).getD (List.replicate 64 0)).length=64
  cases hc:secD (D.wr at_ slot m) i with
  |none=>rfl
  |some b=>exact secD_len _ _ hc
 have hcW:∀i,secD (D.wr at_ slot m) i=none∨secD (D.wr at_ slot m) i=some (W i):=by
  intro i
  rw [hW]
  show secD (D.wr at_ slot m) i=none∨secD (D.wr at_ slot m) i=some ((secD (D.wr at_ slot m) i).getD (List.replicate 64 0))
  cases hc:secD (D.wr at_ slot m) i with
  |none=>exact .inl rfl
  |some b=>exact .inr rfl
 obtain ⟨rest,hr⟩:=allOf_blk (W:=W) 256 (at_+slot * 256) (slotM hfT m) (by generalize slotM hfT m=S at *; omega) (fun i hi=>by rw [hW];simp only;rw [hsec i hi];rfl)
 unfold readT
 exact (slot_reads hfT_len hc hd hW64 (fun i _ _=>hcW i) hr).2 (fun i _ hi=>by rw [hsec i hi];simp)
theorem readT_none {D:DM} {at_ s:Nat} (h:(secD D (at_+s * 256))=none∨secD D (at_+s * 256)=some (List.replicate 64 0)):readT D at_ s=none:=by
 obtain ⟨W,hW⟩:∃W:Nat→List Int,W=fun i=>(secD D i).getD (List.replicate 64 0):=⟨_,rfl⟩
 have hW64:∀i,(W i).length=64:=by
  intro i
  rw [hW]
  show ((secD D i).getD (List.replicate 64 0)).length=64
  cases hc:secD D i with
  |none=>rfl
  |some b=>exact secD_len _ _ hc
 have hcW:∀i,secD D i=none∨secD D i=some (W i):=by
  intro i
  rw [hW]
  show secD D i=none∨secD D i=some ((secD D i).getD (List.replicate 64 0))
  cases hc:secD D i with
  |none=>exact .inl rfl
  |some b=>exact .inr rfl
 have h0:W (at_+s * 256)=List.replicate 64 0:=by
  rw [hW]
  show (secD D (at_+s * 256)).getD (List.replicate 64 0)=_
  rcases h with h|h<;>rw [h]<;>rfl
 unfold readT
 exact slot_zeros hW64 (fun i _ _=>hcW i) (fun x hx=>by rw [h0] at hx;exact (List.mem_replicate.1 hx).2)
theorem readT_clr {n k:Nat} {D:DM} (h:OkD n k D) {at_:Nat} {l:List Int} (hl:∀s∈l,0≤s∧s≤3) (hn:at_+1024≤n) (hk:k+l.length≤100000000) {s:Nat} (hs:(s:Int)∈l):readT (D.clr at_ l) at_ s=none:=by
 have h3:=hl _ hs
 have hr:=read_clr h (at_:=at_) hl hn hk (q:=((at_+s * 256:Nat):Int)) (by omega) (by omega)
 rw [if_pos ⟨(s:Int),hs,by omega⟩] at hr
 refine readT_none (.inr ?_)
 unfold secD
 rw [hr];rfl
theorem readT_clr_ne {n k:Nat} {D:DM} (h:OkD n k D) {at_:Nat} {l:List Int} (hl:∀s∈l,0≤s∧s≤3) (hn:at_+1024≤n) (hk:k+l.length≤100000000) {s:Nat} (hs3:s≤3) (hs:(s:Int)∉l):readT (D.clr at_ l) at_ s=readT D at_ s:=by
 refine readT_congr fun i h1 h2=>?_
 rw [read_clr h hl hn hk (by omega) (by omega),if_neg]
 rintro ⟨x,hx,e⟩
 have:=hl x hx
 have:x=s:=by omega
 exact hs (this ▸ hx)
theorem readT_wr_ne {n k:Nat} {D:DM} (h:OkD n k D) {at_ slot s:Nat} {m:PMan} (hs:slot≤3) (hs3:s≤3) (hne:s≠slot) (hn:at_+1024≤n) (hS:(slotM hfT m).length≤16384) (hk:k+256≤100000000):readT (D.wr at_ slot m) at_ s=readT D at_ s:=by
 refine readT_congr fun i h1 h2=>?_
 rw [read_wr h hs hn hS hk (by omega) (by omega),if_neg]
 generalize slotM hfT m=S at *
 omega
theorem readT_sync {n k:Nat} {D:DM} (h:OkD n k D) {at_ s:Nat} (hn:at_+1024≤n) (hs:s≤3):readT D.sync.2 at_ s=readT D at_ s:=
 readT_congr fun i h1 h2=>h.read_sync (by omega) (by omega) (by omega)
theorem turn_spec {n k:Nat} {D:DM} (h:OkD n k D) {at_:Nat} {m:PMan} (hn:at_+1024≤n) (hS:(slotM hfT m).length≤16384) (hk:k+1000≤100000000) (hc:checkM 1 2 m=0) (hd:DigsOK m) (hby:∀c∈slotM hfT m,0≤c∧c < 256) :
  OkD n (k+516) (D.turn at_ m)∧(D.turn at_ m).op = []∧∀s:Nat,s≤3→readT (D.turn at_ m) at_ s=if (s:Int)=firstI m.ver∨(s:Int)=firstI m.ver+1 then some m else readT D at_ s:=by
 have hf:0≤firstI m.ver∧firstI m.ver≤2:=by unfold firstI;omega
 have hff:((firstI m.ver).toNat:Int)=firstI m.ver:=by omega
 unfold DM.turn DM.turnF
 generalize (firstI m.ver).toNat=f at *
 rw [←hff] at hf ⊢
 clear hff
 have hl:∀s ∈ [(f:Int),(f:Int)+1],0≤s∧s≤3:=by
  intro s hs
  simp only [List.mem_cons,List.not_mem_nil,or_false] at hs
  omega
 have r1:=fun (s:Nat)=>readT_clr h hl hn (by simp;omega) (s:=s)
 have r2:=fun (s:Nat)=>readT_clr_ne h hl hn (by simp;omega) (s:=s)
 obtain ⟨o1,p1⟩:=h.clr (at_:=at_) hl hn (by simp;omega)
 simp only [List.length_cons,List.length_nil] at o1
 generalize D.clr at_ [(f:Int),(f:Int)+1]=D1 at *
 have w1:=readT_wr o1 (at_:=at_) (slot:=f) (by omega) hn hS (by omega) hc hd hby
 have w2:=fun (s:Nat) (h3:s≤3) (hne:s≠f)=>readT_wr_ne o1 (at_:=at_) (slot:=f) (by omega) h3 hne hn hS (by omega)
 have o2:=o1.wr (at_:=at_) (slot:=f) (by omega) hn hS (by omega)
 generalize D1.wr at_ f m=D2 at *
 have w3:=readT_wr o2 (at_:=at_) (slot:=f+1) (by omega) hn hS (by omega) hc hd hby
 have w4:=fun (s:Nat) (h3:s≤3) (hne:s≠f+1)=>readT_wr_ne o2 (at_:=at_) (slot:=f+1) (by omega) h3 hne hn hS (by omega)
 have o3:=o2.wr (at_:=at_) (slot:=f+1) (by omega) hn hS (by omega)
 generalize D2.wr at_ (f+1) m=D3 at *
 obtain ⟨s1,s2,s3,s4⟩:=o3.sync_ok (by omega)
 refine ⟨s2.mono (by omega),s4,fun s h3=>?_⟩
 rw [readT_sync o3 hn h3]
 by_cases e1:s=f+1
 ·subst e1;rw [w3,if_pos (.inr (by omega))]
 ·rw [w4 s h3 e1]
  by_cases e2:s=f
  ·subst e2;rw [w1,if_pos (.inl rfl)]
  ·rw [w2 s h3 e2,r2 s h3 (by simp only [List.mem_cons,List.not_mem_nil,or_false];omega),if_neg (by omega)]
def listN (st:Nat×Int×Int):List Int := [st.2.1,st.2.2].take st.1
theorem listN_del {n:Nat} {a b s:Int} (h:n≤2):listN (delN n a b s)=(listN (n,a,b)).filter fun k=>decide (k≠s):=by
 unfold delN listN
 obtain rfl|rfl|rfl:n=0∨n=1∨n=2:=by omega
 ·simp
 ·by_cases h1:a=s<;>simp [h1]
 ·by_cases h1:a=s<;>by_cases h2:b=s<;>simp [h1,h2]
theorem listN_spP {C:List (Nat×PMan)} {v f:Int} : ∀j,j≤C.length→listN (spP C v f j) = [f,f+1].filter fun k=>decide (∀y∈C.take j,y.2.ver=v→k≠(y.1:Int))
 |0,_=>by simp [spP,listN]
 |j+1,hj=>by
  obtain ⟨y,hy⟩:∃y,C[j]? = some y:=⟨_,List.getElem?_eq_getElem (by omega)⟩
  have ih:=listN_spP (C:=C) (v:=v) (f:=f) j (by omega)
  have hle:=spP_le C v f j
  rw [spP_succ hy]
  have ht:C.take (j+1)=C.take j ++ [y]:=by rw [List.take_add_one,hy];rfl
  rw [ht]
  have hm:∀x,x∈C.take j ++ [y]↔x∈C.take j∨x=y:=fun x=>by simp
  by_cases hv:y.2.ver=v
  ·rw [if_pos hv]
   generalize spP C v f j=st at *
   obtain ⟨n,a,b⟩:=st
   rw [listN_del hle,ih,List.filter_filter]
   refine List.filter_congr fun k _=>?_
   by_cases h1:k=(y.1:Int)
   ·rw [decide_eq_false (by simp [h1]),Bool.false_and]
    exact (decide_eq_false (fun h=>h y ((hm y).2 (.inr rfl)) hv h1)).symm
   ·rw [decide_eq_true h1,Bool.true_and]
    refine decide_eq_decide.2 ?_
    constructor
    ·intro h x hx hxv
     rcases (hm x).1 hx with hx|rfl
     ·exact h x hx hxv
     ·exact h1
    ·intro h x hx hxv
     exact h x ((hm x).2 (.inl hx)) hxv
  ·rw [if_neg hv,ih]
   refine List.filter_congr fun k _=>?_
   refine decide_eq_decide.2 ?_
   constructor
   ·intro h x hx hxv
    rcases (hm x).1 hx with hx|rfl
    ·exact h x hx hxv
    ·exact absurd hxv hv
   ·intro h x hx hxv
    exact h x ((hm x).2 (.inl hx)) hxv
set_option maxRecDepth 10000 in
theorem wrs_spec {n at_:Nat} {m:PMan} (hn:at_+1024≤n) (hS:(slotM hfT m).length≤16384) (hc:checkM 1 2 m=0) (hd:DigsOK m) (hby:∀c∈slotM hfT m,0≤c∧c < 256):∀(l:List Int) {k:Nat} {D:DM},OkD n k D→(∀s∈l,0≤s∧s≤3)→k+256 * l.length≤100000000→∀s:Nat,s≤3→readT (D.wrs at_ l m) at_ s=if (s:Int)∈l then some m else readT D at_ s
 | [],k,D,h,_,_,s,_=>by simp [DM.wrs]
 |x :: l,k,D,h,hl,hk,s,h3=>by
  simp only [List.length_cons] at hk
  have h0:=hl x (List.mem_cons_self ..)
  have hk1:k+256≤100000000:=by clear hS hby;omega
  have hk2:k+256+256 * l.length≤100000000:=by clear hS hby;omega
  have hx3:x.toNat≤3:=by clear hS hby;omega
  have ih:=wrs_spec hn hS hc hd hby l (h.wr (slot:=x.toNat) (m:=m) hx3 hn hS hk1) (fun y hy=>hl y (List.mem_cons_of_mem _ hy)) hk2 s h3
  have e:D.wrs at_ (x :: l) m=(D.wr at_ x.toNat m).wrs at_ l m:=rfl
  rw [e,ih]
  by_cases h1:(s:Int)∈l
  ·rw [if_pos h1,if_pos (List.mem_cons_of_mem _ h1)]
  ·rw [if_neg h1]
   by_cases h2:s=x.toNat
   ·have h4:(s:Int)=x:=by clear hS hby ih;omega
    rw [if_pos (by rw [h4];exact List.mem_cons_self ..),h2]
    exact readT_wr h hx3 hn hS hk1 hc hd hby
   ·rw [readT_wr_ne h hx3 h3 h2 hn hS hk1,if_neg]
    intro h4
    rcases List.mem_cons.1 h4 with h4|h4
    ·exact h2 (by clear hS hby ih;omega)
    ·exact h1 h4
set_option maxRecDepth 10000 in
theorem mend_spec {n k:Nat} {D:DM} (h:OkD n k D) (hop:D.op = []) {at_:Nat} {m:PMan} {l:List Int} (hl:∀s∈l,0≤s∧s≤3) (hll:l.length≤2) (hn:at_+1024≤n) (hS:(slotM hfT m).length≤16384) (hk:k+1000≤100000000) (hc:checkM 1 2 m=0) (hd:DigsOK m) (hby:∀c∈slotM hfT m,0≤c∧c < 256) :
  OkD n (k+516) (D.mend at_ l m)∧(D.mend at_ l m).op = []∧∀s:Nat,s≤3→readT (D.mend at_ l m) at_ s=if (s:Int)∈l then some m else readT D at_ s:=by
 unfold DM.mend
 by_cases h0:l = []
 ·subst h0
  rw [if_pos rfl]
  exact ⟨h.mono (by omega),hop,fun s _=>by simp⟩
 ·rw [if_neg h0]
  have hk1:k+l.length≤100000000:=by clear hS hby;omega
  have hk2:k+l.length+1+256 * l.length≤100000000:=by clear hS hby;omega
  obtain ⟨o1,p1⟩:=h.clr (at_:=at_) hl hn hk1
  have o2:=OkD.wrs hn hS l o1 hl hk2
  obtain ⟨s1,s2,s3,s4⟩:=o2.sync_ok (by clear hS hby;omega)
  refine ⟨s2.mono (by clear hS hby;omega),s4,fun s h3=>?_⟩
  rw [readT_sync o2 hn h3,wrs_spec hn hS hc hd hby l o1 hl hk2 s h3]
  by_cases h1:(s:Int)∈l
  ·rw [if_pos h1,if_pos h1]
  ·rw [if_neg h1,if_neg h1,readT_clr_ne h hl hn hk1 h3 h1]
set_option maxRecDepth 10000 in
theorem pw_less (a b:PRef):PCalls Tryz.prog 41 [pref a,pref b] (· = pbool (refLt a b)):=by
 refine pcalls_of_pw typeTab_ok Tryz.func41 rfl (by kernel_rfl) (by simp [low_pint,low_pints,low_pstr,low_pbool,low_pbytes,low_pstrs,low_pref]) (by simp [pint,pints,pstr,pbool,pstrs,pbytes,PV.ownB,pref]) (by rw [Tryz.ntmps41];simp) ?_
 rw [Tryz.ntmps41,Tryz.results41]
 unfold refLt
 by_cases h1:a.kind < b.kind
 ·refine wk ?_
  refine retP rfl (by exact lw) ?_
  simp [pbool,h1]
 ·by_cases h2:a.kind=b.kind
  ·by_cases h3:a.id < b.id
   ·refine wk ?_
    refine retP rfl (by exact lw) ?_
    simp [pbool,h2,h3]
   ·refine wk ?_
    refine retP rfl (by exact lw) ?_
    simp [pbool,h2,h3]
  ·refine wk ?_
   refine retP rfl (by exact lw) ?_
   simp [pbool,h1,h2]
theorem notes_up {l:List Int} {k:Nat} (h:∀j,j < k→noteOK (l.getD j default)=true) (hk:noteOK (l.getD k default)=true):∀j,j < k+1→noteOK (l.getD j default)=true:=fun j hj=>by
 by_cases e:j=k
 ·subst e;exact hk
 ·exact h j (by omega)
theorem notes_all {l:List Int} (h:∀j,j < l.length→noteOK (l.getD j default)=true):l.all noteOK=true:=by
 rw [List.all_eq_true]
 intro x hx
 obtain ⟨j,hj,rfl⟩:=List.getElem_of_mem hx
 have:=h j hj
 rwa [List.getD_eq_getElem?_getD,List.getElem?_eq_getElem hj] at this
theorem notes_bad {l:List Int} {k:Nat} (hk:k < l.length) (h:noteOK (l.getD k default)=false):l.all noteOK=false:=by
 rw [List.all_eq_false]
 refine ⟨l.getD k default,?_,by rw [h];simp⟩
 rw [List.getD_eq_getElem?_getD,List.getElem?_eq_getElem hk];exact List.getElem_mem hk
set_option maxRecDepth 10000 in
set_option maxHeartbeats 4000000 in
theorem pw_rCheck (m:PMan) (h1:m.notes.length≤1000000000) (h2:m.refs.length≤1000000000):PCalls Tryz.prog 12 [pman m] (· = pint (checkM 2 3 m)):=by
 have hlm:=low_pmanL m
 have hln:Low (pints m.notes):=(low_pints _).2 trivial
 have hlr:Low (prefs m.refs):=(low_prefs _).2 trivial
 refine pcalls_of_pw typeTab_ok Tryz.func12 rfl (by kernel_rfl) (by simp [low_pint,low_pints,low_pstr,low_pbool,low_pbytes,low_pstrs,low_pman]) (by simp [pint,pints,pstr,pbool,pstrs,pbytes,PV.ownB,pman]) (by rw [Tryz.ntmps12];simp) ?_
 rw [Tryz.ntmps12,Tryz.results12]
 have fl:=rows_len m.refs
 unfold checkM
 by_cases a1:16 < m.notes.length
 ·rw [if_pos (.inl a1)]
  refine wk ?_
  exact retP rfl (by exact lw) rfl
 by_cases a2:600 < m.refs.length
 ·rw [if_pos (.inr a2)]
  refine wk ?_
  exact retP rfl (by exact lw) rfl
 rw [if_neg (by omega)]
 have bad:rightM m=false→(if rightM m=true then (0:Int) else 3)=3:=fun h=>by rw [h];rfl
 by_cases b1:m.ver < 0
 ·rw [bad (by unfold rightM;rw [decide_eq_false (show ¬0≤m.ver by omega)];rfl)]
  refine wk ?_
  exact retP rfl (by exact lw) rfl
 by_cases b2:1099511627776 < m.ver
 ·rw [bad (by unfold rightM;rw [decide_eq_false (show ¬m.ver≤1099511627776 by omega)];simp)]
  refine wk ?_
  exact retP rfl (by exact lw) rfl
 by_cases b3:m.ver=0
 ·by_cases b4:m.notes.length+m.refs.length=0
  ·have n0:m.notes = []:=List.eq_nil_of_length_eq_zero (by omega)
   have n1:m.refs = []:=List.eq_nil_of_length_eq_zero (by omega)
   have hr:rightM m=true:=by simp [rightM,b3,n0,n1,risesM]
   rw [if_pos hr]
   clear bad hr
   obtain ⟨v,ns,rs⟩:=m
   simp only at *
   subst n0 n1
   refine wk ?_
   refine PW.loop (fun _:Nat=>((bot.setb 0 (pmanL ⟨v,[],[]⟩)).put 1 (.ptr 0 0)).put 3 (pint 0)) (fun k=>k=0) (fun _=>0) 0 rfl ?_ ?_
   ·exact sb
   ·rintro k rfl
    refine wk ?_
    refine PW.loop (fun _:Nat=>((bot.setb 0 (pmanL ⟨v,[],[]⟩)).put 1 (.ptr 0 0)).put 4 (pint 0)) (fun k=>k=0) (fun _=>0) 0 rfl ?_ ?_
    ·exact sb
    ·rintro k rfl
     refine wk ?_
     exact retP rfl (by exact lw) rfl
  ·rw [bad (by simp only [rightM];rw [decide_eq_false (show ¬0 < m.ver by omega),decide_eq_false b4];simp)]
   refine wk ?_
   exact retP rfl (by exact lw) rfl
 have eR:rightM m=(m.notes.all noteOK && risesM m.refs):=by
  unfold rightM
  rw [decide_eq_true (show 0≤m.ver by omega),decide_eq_true (show m.ver≤1099511627776 by omega),decide_eq_true (show 0 < m.ver by omega)]
  simp
 refine wk ?_
 refine PW.loop (fun k:Nat=>((bot.setb 0 (pmanL m)).put 1 (.ptr 0 0)).put 3 (pint k)) (fun k=>k≤m.notes.length∧∀j,j < k→noteOK (m.notes.getD j default)=true) (fun k=>m.notes.length - k) 0 ⟨by omega,fun j hj=>by omega⟩ ?_ ?_
 ·exact sb
 ·rintro k ⟨hk,hu⟩
  by_cases hlt:k < m.notes.length
  ·have hu2:=fun _:Unit=>hu
   clear hu
   cases hn:noteOK (m.notes.getD k default) with
   |false=>
    rw [bad (by rw [eR,notes_bad hlt hn];rfl)]
    have hn' : m.notes.getD k default < -1099511627776∨1099511627776 < m.notes.getD k default:=by
     simp only [noteOK,Bool.and_eq_false_iff,decide_eq_false_iff_not] at hn;omega
    clear bad eR hn
    by_cases c1:m.notes.getD k default < -1099511627776
    ·refine wk ?_
     exact retP rfl (by exact lw) rfl
    ·have c2:1099511627776 < m.notes.getD k default:=by omega
     refine wk ?_
     exact retP rfl (by exact lw) rfl
   |true=>
    have hn' : -1099511627776≤m.notes.getD k default∧m.notes.getD k default≤1099511627776:=by
     simp only [noteOK,Bool.and_eq_true,decide_eq_true_eq] at hn;omega
    refine wk ?_
    refine loopP (k+1) ⟨by omega,notes_up (hu2 ()) hn⟩ (by omega) ?_
    exact sb
  ·obtain rfl:k=m.notes.length:=by omega
   rw [notes_all hu,Bool.true_and] at eR
   clear hu
   rw [eR] at bad ⊢
   clear eR
   refine wk ?_
   refine PW.loop (fun k:Nat=>((bot.setb 0 (pmanL m)).put 1 (.ptr 0 0)).put 4 (pint k)) (fun k=>k≤m.refs.length∧upR m.refs k) (fun k=>m.refs.length - k) 0 ⟨by omega,fun j hj=>by omega⟩ ?_ ?_
   ·exact sb
   ·rintro k ⟨hk,hu⟩
    by_cases hlt:k < m.refs.length
    ·have hr:=getD_row hlt
     have hr':=ref_cell hr
     have bad2:¬(refOK (m.refs.getD k default)=true∧(0 < k→refLt (m.refs.getD (k - 1) default) (m.refs.getD k default)=true))→(if risesM m.refs=true then (0:Int) else 3)=3:=fun h=>bad (up_bad hlt h)
     clear bad
     obtain ⟨r,hrr⟩:∃r,r=m.refs.getD k default:=⟨_,rfl⟩
     rw [←hrr] at hr hr' bad2
     have hok:refOK r=true↔(1≤r.kind∧r.kind≤9)∧1≤r.id∧r.id≤1099511627776:=by simp [refOK];omega
     have hu2:=fun _:Unit=>hu
     clear hu
     by_cases a1:r.kind < 1
     ·rw [bad2 (fun h=>by have:=hok.1 h.1;omega)]
      refine wk ?_
      exact retP rfl (by exact lw) rfl
     by_cases a2:9 < r.kind
     ·rw [bad2 (fun h=>by have:=hok.1 h.1;omega)]
      refine wk ?_
      exact retP rfl (by exact lw) rfl
     by_cases a3:r.id < 1
     ·rw [bad2 (fun h=>by have:=hok.1 h.1;omega)]
      refine wk ?_
      exact retP rfl (by exact lw) rfl
     by_cases a4:1099511627776 < r.id
     ·rw [bad2 (fun h=>by have:=hok.1 h.1;omega)]
      refine wk ?_
      exact retP rfl (by exact lw) rfl
     have hokr:refOK r=true:=hok.2 (by omega)
     by_cases hk0:k=0
     ·subst hk0
      clear bad2
      refine wk ?_
      refine loopP 1 ⟨by omega,fun j hj=>?_⟩ (by omega) ?_
      ·obtain rfl:j=0:=by omega
       exact ⟨by rw [←hrr];exact hokr,by omega⟩
      ·exact sb
     ·obtain ⟨j,rfl⟩:∃j,k=j+1:=⟨k - 1,by omega⟩
      have ho:=pw_less (m.refs.getD (((j+1:Nat):Int) - 1).toNat default) r
      have ej:(((j+1:Nat):Int) - 1).toNat=j:=by omega
      simp only [Nat.add_sub_cancel] at bad2
      cases hz:refLt (m.refs.getD (((j+1:Nat):Int) - 1).toNat default) r with
      |true=>
       rw [hz] at ho
       clear bad2
       refine wk ?_
       refine loopP (j+2) ⟨by omega,fun i hi=>?_⟩ (by omega) ?_
       ·by_cases hij:i=j+1
        ·subst hij
         rw [←hrr]
         exact ⟨hokr,fun _=>by rw [ej] at hz;exact hz⟩
        ·exact hu2 () i (by omega)
       ·exact sb
      |false=>
       rw [bad2 (fun h=>by have h2:=h.2 (by omega);rw [ej,h2] at hz;cases hz)]
       rw [hz] at ho
       clear bad2
       refine wk ?_
       exact retP rfl (by exact lw) rfl
    ·obtain rfl:k=m.refs.length:=by omega
     have hR:risesM m.refs=true:=(rises_up _).2 hu
     clear hu bad
     rw [if_pos hR]
     clear hR
     refine wk ?_
     exact retP rfl (by exact lw) rfl
def few32C (m:PMan):Bool:=decide (m.notes.length≤20) && (decide (m.refs.length≤40) || (decide (600 < m.refs.length) && decide (m.refs.length≤610)))
set_option maxRecDepth 10000 in
theorem pw_few32 (m:PMan) (h1:m.notes.length≤1000000000000000) (h2:m.refs.length≤1000000000000000):PCalls Tryz.prog 6 [pman m] (· = pbool (few32C m)):=by
 have hlm:=low_pmanL m
 refine pcalls_of_pw typeTab_ok Tryz.func6 rfl (by kernel_rfl) (by simp [(low_pman m).2 trivial]) (by simp [pman,PV.ownB]) (Nat.le_of_ble_eq_true rfl) ?_
 unfold few32C
 by_cases g1:m.notes.length≤20
 ·rw [decide_eq_true g1]
  by_cases g2:m.refs.length≤40
  ·rw [decide_eq_true g2]
   refine wk ?_
   exact retP (r:=pbool true) rfl (.val _) rfl
  ·rw [decide_eq_false g2]
   by_cases g3:600 < m.refs.length
   ·rw [decide_eq_true g3]
    by_cases g4:m.refs.length≤610
    ·rw [decide_eq_true g4]
     refine wk ?_
     exact retP (r:=pbool true) rfl (.val _) rfl
    ·rw [decide_eq_false g4]
     refine wk ?_
     exact retP (r:=pbool false) rfl (.val _) rfl
   ·rw [decide_eq_false g3]
    refine wk ?_
    exact retP (r:=pbool false) rfl (.val _) rfl
 ·rw [decide_eq_false g1]
  refine wk ?_
  exact retP (r:=pbool false) rfl (.val _) rfl
def dig0 (x:Int):List Int := [x,0,0,0,0,0,0,0,0,0,0,0,0,0,0,0]
def refs0:List PRef := [⟨1,7,dig0 1⟩,⟨1,9,dig0 2⟩]
set_option maxRecDepth 10000 in
theorem pw_refs:PCalls Tryz.prog 31 [] (· = prefs refs0):=by
 refine pcalls_bare (o:=some 42) ?_
 refine pcalls_of_pw typeTab_ok Tryz.func31 rfl (by kernel_rfl) (by simp) (by simp) (Nat.le_of_ble_eq_true rfl) ?_
 refine wk ?_
 exact retP rfl (low_sl.2 (low_sl.1 ((low_prefs refs0).2 trivial))) rfl
end
section
open Go.RowKit
variable {t d c m' : Nat} (hd:([t,d,c,m']:List Nat).Nodup)
include hd
theorem tc_Now (D:DM) (at_:Nat) (now:PMan) (h:CloM now):HCalls Tryz.prog 27 [.ptr t 0] (tG t d c m' at_ now D) (dMs m' D) (pman now) (tG t d c m' at_ now D) (dMs m' D):=
 th_at (tc_Now1 D at_ now h) t d c m' hd (.cons renT_ptr .nil) (.low _ ((low_pman _).2 trivial))
theorem tc_Turn {n k:Nat} {D:DM} (h:OkD n k D) (at_:Nat) (now m:PMan) (hn:at_+1024≤n) (hn2:n≤1000000000) (hk:k+1000≤100000000) (hv:m.ver=now.ver+1) (hv0:0≤now.ver∧now.ver < 1000000000) (hc:checkM 2 3 m=0) (hm:EncM m) (hml:(slotM hfT m).length≤16384) (hcl:CloM m):HCalls Tryz.prog 30 [.ptr t 0,pints m.notes,prefs m.refs] (tG t d c m' at_ now D) (dMs m' D) (pint 0) (tG t d c m' at_ m (D.turn at_ m)) (dMs m' (D.turn at_ m)):=
 th_at (tc_Turn1 h at_ now m hn hn2 hk hv hv0 hc hm hml hcl) t d c m' hd (.cons renT_ptr (.cons (.low _ ((low_pints _).2 trivial)) (.cons (.low _ ((low_prefs _).2 trivial)) .nil))) (.low _ (.val _))
theorem tc_TurnE (D:DM) (at_:Nat) (now m:PMan) (hv:m.ver=now.ver+1) (hv0:0≤now.ver∧now.ver < 1000000000) (hc:checkM 2 3 m≠0) (hcl:CloM m):HCalls Tryz.prog 30 [.ptr t 0,pints m.notes,prefs m.refs] (tG t d c m' at_ now D) (dMs m' D) (pint (checkM 2 3 m)) (tG t d c m' at_ now D) (dMs m' D):=
 th_at (tc_TurnE1 D at_ now m hv hv0 hc hcl) t d c m' hd (.cons renT_ptr (.cons (.low _ ((low_pints _).2 trivial)) (.cons (.low _ ((low_prefs _).2 trivial)) .nil))) (.low _ (.val _))
theorem tc_Copies0 (D:DM) (at_:Nat) (now:PMan) (hop:D.op = []) (hdead:D.dead=false) (hv:now.ver=0):HCalls Tryz.prog 28 [.ptr t 0] (tG t d c m' at_ now D) (dMs m' D) (pint 2) (tG t d c m' at_ now D) (dMs m' D):=
 th_at (tc_Copies01 D at_ now hop hdead hv) t d c m' hd (.cons renT_ptr .nil) (.low _ (.val _))
theorem tc_Copies (D:DM) (at_:Nat) (now:PMan) (h:D.cells.length≤1000000000) (hop:D.op = []) (ha:at_≤1000000000) (hdead:D.dead=false) (hv:0 < now.ver) (hv2:now.ver≤1000000000) (n:Nat) (a b:Int) (hst:spP (copiesM (readT D at_)) now.ver (firstI now.ver) (copiesM (readT D at_)).length=(n,a,b)) :
  HCalls Tryz.prog 28 [.ptr t 0] (tG t d c m' at_ now D) (dMs m' D) (pint (2 - n)) (tG t d c m' at_ now D) (dMs m' D):=
 th_at (tc_Copies1 D at_ now h hop ha hdead hv hv2 n a b hst) t d c m' hd (.cons renT_ptr .nil) (.low _ (.val _))
theorem tc_Mend {N k:Nat} {D:DM} (h:OkD N k D) (at_:Nat) (now:PMan) (hop:D.op = []) (hn:at_+1024≤N) (hn2:N≤1000000000) (hk:k+1000≤100000000) (hv:0 < now.ver) (hv2:now.ver≤1000000000) (hm:EncM now) (hml:(slotM hfT now).length≤16384) (n:Nat) (a b:Int) (hst:spP (copiesM (readT D at_)) now.ver (firstI now.ver) (copiesM (readT D at_)).length=(n,a,b)) (L:List Int) (hL:L = [a,b].take n) (hLs:∀s∈L,0≤s∧s≤3) :
  HCalls Tryz.prog 29 [.ptr t 0] (tG t d c m' at_ now D) (dMs m' D) (.tup [pint L.length,pint 0]) (tG t d c m' at_ now (D.mend at_ L now)) (dMs m' (D.mend at_ L now)):=
 th_at (tc_Mend1 h at_ now hop hn hn2 hk hv hv2 hm hml n a b hst L hL hLs) t d c m' hd (.cons renT_ptr .nil) (.low _ (low_tup.2 (by simp [low_pint])))
end
section
open Go.RowKit
theorem checkM_iff {m:PMan} {e1 e2:Int} (h1:e1≠0) (h2:e2≠0):checkM e1 e2 m=0↔(m.notes.length≤16∧m.refs.length≤600)∧rightM m=true:=by
 unfold checkM
 by_cases g:16 < m.notes.length∨600 < m.refs.length
 ·rw [if_pos g]
  constructor
  ·intro h;exact absurd h h1
  ·rintro ⟨⟨a,b⟩,-⟩;omega
 ·rw [if_neg g]
  cases hr:rightM m with
  |true=>simp;omega
  |false=>simp [h2]
theorem rises_ok:∀{l:List PRef},risesM l=true→∀r∈l,refOK r=true
 | [],_=>by simp
 | [x],h=>by
  intro r hr
  rw [List.mem_singleton] at hr
  subst hr;exact h
 |x :: y :: l,h=>by
  rw [risesM] at h
  simp only [Bool.and_eq_true] at h
  intro r hr
  rcases List.mem_cons.1 hr with rfl|hr
  ·exact h.1
  ·exact rises_ok h.2.2 r hr
theorem okM {m:PMan} (hc:checkM 2 3 m=0) (hd:DigsOK m):EncM m∧CloM m∧checkM 1 2 m=0:=by
 obtain ⟨⟨l1,l2⟩,hr⟩:=(checkM_iff (by decide) (by decide)).1 hc
 have hc2:checkM 1 2 m=0:=(checkM_iff (by decide) (by decide)).2 ⟨⟨l1,l2⟩,hr⟩
 unfold rightM at hr
 simp only [Bool.and_eq_true,decide_eq_true_eq] at hr
 obtain ⟨r1,r2,r3,r4,r5⟩:=hr
 refine ⟨⟨?_,?_,hd,by omega,by omega⟩,⟨by omega,by omega⟩,hc2⟩
 ·intro z hz
  rcases List.mem_cons.1 hz with rfl|hz
  ·omega
  ·have:=List.all_eq_true.1 r3 z hz
   unfold noteOK at this
   simp only [Bool.and_eq_true,decide_eq_true_eq] at this
   omega
 ·intro z hz
  obtain ⟨r,hr,hz⟩:=List.mem_flatMap.1 hz
  have:=rises_ok r5 r hr
  unfold refOK at this
  simp only [Bool.and_eq_true,decide_eq_true_eq] at this
  simp only [List.mem_cons,List.not_mem_nil,or_false] at hz
  rcases hz with rfl|rfl<;>omega
theorem slotM_ok {m:PMan} (hc:checkM 2 3 m=0) (hd:DigsOK m):(slotM hfT m).length≤16384∧∀c∈slotM hfT m,0≤c∧c < 256:=by
 obtain ⟨⟨l1,l2⟩,hr⟩:=(checkM_iff (by decide) (by decide)).1 hc
 have hl:=(encM_len (okM hc hd).2.2 hd).2
 have hs:(strOf (encM m)).size=(encM m).length:=strOf_size _
 have hb:=strB_byte (strOf (encM m)) (by omega)
 have hil:=(intB_len ((strOf (encM m)).size) (by omega) (by omega)).2
 have hsl:(strB (strOf (encM m))).length=(intB ((strOf (encM m)).size)).length+(strOf (encM m)).size:=by rw [strB,List.length_append,bytesL_len]
 have h16:=hfT_len (strOf (encM m))
 have hb16:=hfT_byte (strOf (encM m))
 unfold slotM
 generalize hfT (strOf (encM m))=H at *
 refine ⟨by rw [List.length_append];omega,fun c hc=>?_⟩
 rcases List.mem_append.1 hc with hc|hc
 ·exact hb16 c hc
 ·exact hb c hc
set_option maxRecDepth 10000 in
set_option maxHeartbeats 1000000 in
theorem pw_insert0:PCalls Tryz.prog 101 [.sl 0 1 [] none,pint 0,pint 0] (· = .tup []):=by
 refine pcalls_of_pw typeTab_ok Tryz.func101 rfl (by kernel_rfl) (by simp [low_pint,low_sl]) (by simp [pint,PV.ownB]) (by rw [Tryz.ntmps101];simp) ?_
 rw [Tryz.ntmps101,Tryz.results101]
 refine wk ?_
 refine PW.unroll ?_
 refine wk ?_
 exact retP rfl (by simp [low_tup]) rfl
set_option maxRecDepth 10000 in
set_option maxHeartbeats 1000000 in
theorem pw_len64:PCalls Tryz.prog 111 [.val (.int .u64 0)] (· = pint 0):=by
 refine pcalls_of_pw typeTab_ok Tryz.func111 rfl (by kernel_rfl) (by simp [low_val]) (by simp [PV.ownB]) (by rw [Tryz.ntmps111];simp) ?_
 rw [Tryz.ntmps111,Tryz.results111]
 refine wg ?_
 refine PW.region typeTab_ok (by kernel_rfl) ?_
 refine wg ?_
 refine PW.region typeTab_ok (by kernel_rfl) ?_
 refine wg ?_
 refine PW.region typeTab_ok (by kernel_rfl) ?_
 refine wg ?_
 refine PW.region typeTab_ok (by kernel_rfl) ?_
 refine wg ?_
 refine PW.region typeTab_ok (by kernel_rfl) ?_
 refine PWops.stepA rfl ?_
 refine PWops.stepA rfl ?_
 refine PWops.stepA rfl ?_
 refine PWops.idxSt (y:=0) (c:=0) rfl rfl rfl rfl rfl rfl rfl rfl rfl (by decide +kernel) (by decide +kernel) ?_
 refine wk ?_
 exact retP rfl (.val _) rfl
set_option maxRecDepth 10000 in
theorem pw_len0:PCalls Tryz.prog 96 [.val (.int .u64 0)] (· = pint 0):=by
 have h:=pw_len64
 refine pcalls_of_pw typeTab_ok Tryz.func96 rfl (by kernel_rfl) (by simp [low_val]) (by simp [PV.ownB]) (by rw [Tryz.ntmps96];simp) ?_
 rw [Tryz.ntmps96,Tryz.results96]
 refine wk ?_
 exact retP rfl (.val _) rfl
set_option maxRecDepth 10000 in
set_option maxHeartbeats 1000000 in
theorem pw_pdq0:PCalls Tryz.prog 95 [.sl 0 1 [] none,pint 0,pint 0,pint 0] (· = .tup []):=by
 have h:=pw_insert0
 refine pcalls_of_pw typeTab_ok Tryz.func95 rfl (by kernel_rfl) (by simp [low_pint,low_sl]) (by simp [pint,PV.ownB]) (by rw [Tryz.ntmps95];simp) ?_
 rw [Tryz.ntmps95,Tryz.results95]
 refine wk ?_
 refine PW.unroll ?_
 refine wk ?_
 exact retP rfl (by simp [low_tup]) rfl
set_option maxRecDepth 10000 in
theorem pw_sort0:PCalls Tryz.prog 82 [.sl 0 1 [] none] (· = .tup []):=by
 have h:=pw_pdq0
 have h2:=pw_len0
 refine pcalls_of_pw typeTab_ok Tryz.func82 rfl (by kernel_rfl) (by simp [low_sl]) (by simp [PV.ownB]) (by rw [Tryz.ntmps82];simp) ?_
 rw [Tryz.ntmps82,Tryz.results82]
 refine wk ?_
 exact retP rfl (by simp [low_tup]) rfl
set_option maxRecDepth 10000 in
set_option maxHeartbeats 2000000 in
theorem dc_sectors0 (D:DM) (hop:D.op = []):DCalls 55 [] D (.sl 0 1 [] none) D:=by
 refine dcalls_of_pw Tryz.func55 rfl rfl (by simp) (by simp) (Nat.le_of_ble_eq_true rfl) (by simp [low_sl]) ?_
 have hsort:=pw_sort0
 have hdm:dM D = .map [] D.clock:=by unfold dM;rw [hop];rfl
 have c1:=dC_low D
 have hlowm:∀e∈([]:List (Nat×PV×PV)),Low e.2.1∧Low e.2.2:=by simp
 unfold dMs
 rw [hdm]
 refine wk ?_
 refine PWops.rng rfl rfl rfl rfl rfl rfl rfl rfl ?_
 refine wk ?_
 refine PW.loop (fun _:Nat=>((((((bot.setb 1000001 (dB 1000002 1000003 D)).setb 1000002 (dC D)).setm 1000003 (.map [] D.clock)).setm 2004 (.iter 1000003 D.clock [] D.clock)).put 0 (.ptr 1000001 0)).put 9 (.ptr 2004 0)).put 3 (.sl 0 1 [] (some 3))) (fun k=>k=0) (fun _=>0) 0 rfl ?_ ?_
 ·exact sb
 ·rintro k rfl
  refine PW.seq ?_
  refine PWnext typeTab_ok (it:=2004) (mid:=1000003) (es := []) (clock:=D.clock) rfl rfl rfl (by decide) rfl ?_ ?_ ?_
  ·exact .inr (.inl rfl)
  ·intro hno
   refine wg ?_
   refine wk ?_
   exact RetH.mk rfl (Weak.refl _) ⟨⟨_,rfl,WeakL.refl _⟩,⟨_,rfl,WeakL.refl _⟩,trivial⟩ ⟨⟨rfl,rfl⟩,trivial⟩
  ·intro s hs
   simp at hs
theorem flat_bare {α:Type} {f:α→List PV} (h:∀x,(f x).map PV.bare=f x) (l:List α):(l.flatMap f).map PV.bare=l.flatMap f:=by
 rw [List.map_flatMap];congr 1;funext x;exact h x
theorem dC_bare (D:DM):(dC D).map PV.bare=dC D:=flat_bare dcellL_bare _
theorem dC_len (D:DM):(dC D).length=D.cells.length * 65:=flatMap_len dcellL_len _
theorem copy_cells {b:Nat→Option (List PV)} {id:Nat} (D:DM) (h:b id=some (dC D)):copySrc b 65 (.msl id 0 D.cells.length 65)=some (D.cells.length,dC D):=by
 show (if (65:Nat)=65 then _ else none)=_
 rw [if_pos rfl,h]
 show (if 0+D.cells.length * 65≤(dC D).length then some (D.cells.length,(((dC D).drop 0).take (D.cells.length * 65)).map PV.bare) else none)=_
 rw [if_pos (by rw [dC_len];omega),List.drop_zero,List.take_of_length_le (by rw [dC_len];exact Nat.le_refl _),dC_bare]
def DM.crash0 (D:DM):DM:=⟨D.cells,[],0,0,-1,false⟩
def crG (d c m d2 c2 m2:Nat) (D D2:DM):List (Nat×List PV) := [(d,dB c m D),(c,dC D),(d2,dB c2 m2 D2),(c2,dC D2)]
def crM (m m2:Nat) (D D2:DM):List (Nat×PMap) := [(m,dM D),(m2,dM D2)]
set_option maxRecDepth 10000 in
set_option maxHeartbeats 2000000 in
theorem dc_Crash01 (D:DM) (keep:List Int) (hsz:1≤D.cells.length∧D.cells.length≤65536) (hop:D.op = []) :
  HCalls Tryz.prog 26 [.ptr 1000001 0,pints keep] (dG 1000001 1000002 1000003 D) (dMs 1000003 D) (.ptr 900005 0) (crG 1000001 1000002 1000003 900005 900006 900007 D (D.crash0)) (crM 1000003 900007 D (D.crash0)):=by
 have c1:=dC_low D
 have c2:=dM_low D
 have c3:=dC_low (D.crash0)
 have c4:=dM_low (D.crash0)
 have hsec:=dc_sectors0 D hop 1000001 1000002 1000003 (by decide)
 have hnew:=dc_New D.cells.length (by omega) 900005 900006 900007 (by decide)
 rw [Int.toNat_natCast] at hnew
 refine hcalls_of_pw typeTab_ok Tryz.func26 rfl rfl (by simp [PV.ownB,pints]) (Nat.le_of_ble_eq_true rfl) (by simp [ResIds,dG,dMs]) (by simp [ResIds,dG,dMs]) ⟨li_cons (.ptr _ _ (by simp [ResIds,dG,dMs])) (li_cons (Low.lowI (by exact lw)) li_nil),lb_cons (dB_lowI (by simp [ResIds,dG,dMs]) (by simp [ResIds,dG,dMs]) _) (lb_cons (li_low c1) lb_nil),lm_cons c2 lm_nil, .ptr _ _ (by simp [ResIds,crG,crM]),lb_cons (dB_lowI (by simp [ResIds,crG,crM]) (by simp [ResIds,crG,crM]) _) (lb_cons (li_low c1) (lb_cons (dB_lowI (by simp [ResIds,crG,crM]) (by simp [ResIds,crG,crM]) _) (lb_cons (li_low c3) lb_nil))),lm_cons c2 (lm_cons c4 lm_nil),by simp [crG,dG],by simp [crM,dMs]⟩ ?_
 have hnl:(newD D.cells.length).cells.length=D.cells.length:=by simp [newD]
 have hnB:dB 900006 900007 (newD D.cells.length)=dB 900006 900007 (D.crash0):=by simp [dB,newD,DM.crash0]
 have hnM:dM (newD D.cells.length)=dM (D.crash0):=rfl
 have hnC:=dC_len (newD D.cells.length)
 rw [hnl] at hnC
 generalize hN:newD D.cells.length=N at *
 refine wk ?_
 refine PWops.copy (n2:=D.cells.length) (cs:=dC D) (out:=dC D) rfl rfl rfl rfl rfl ?_ rfl rfl rfl ?_ ?_ ?_ ?_
 ·exact copy_cells D rfl
 ·show 0+min D.cells.length N.cells.length * 65≤(dC N).length
  rw [hnC,hnl,Nat.min_self];omega
 ·rw [dC_len,hnl,Nat.min_self];exact Nat.le_refl _
 ·rw [hnl,Nat.min_self,←dC_len D,List.take_length]
  unfold splice
  rw [List.take_zero,List.nil_append,Nat.zero_add,List.drop_of_length_le (by rw [hnC,dC_len];exact Nat.le_refl _),List.append_nil]
 have hG:dG 900005 900006 900007 N = [(900005,dB 900006 900007 (D.crash0)),(900006,dC N)]:=by rw [←hnB];rfl
 have hM:dMs 900007 N = [(900007,dM (D.crash0))]:=by rw [←hnM];rfl
 rw [hG,hM,hnl,Nat.min_self]
 refine wk ?_
 refine PW.unroll ?_
 refine wk ?_
 exact RetH.mk rfl (Weak.refl _) ⟨⟨_,rfl,WeakL.refl _⟩,⟨_,rfl,WeakL.refl _⟩,⟨_,rfl,WeakL.refl _⟩,⟨_,rfl,WeakL.refl _⟩,trivial⟩ ⟨⟨rfl,rfl⟩,⟨rfl,rfl⟩,trivial⟩
theorem dc_Crash0 (D:DM) (keep:List Int) (hsz:1≤D.cells.length∧D.cells.length≤65536) (hop:D.op = []) (d c m d2 c2 m2:Nat) (hd:([d,c,m,d2,c2,m2]:List Nat).Nodup) :
  HCalls Tryz.prog 26 [.ptr d 0,pints keep] (dG d c m D) (dMs m D) (.ptr d2 0) (crG d c m d2 c2 m2 D (D.crash0)) (crM m m2 D (D.crash0)):=by
 refine (dc_Crash01 D keep hsz hop).at [(1000001,d),(1000002,c),(1000003,m),(900005,d2),(900006,c2),(900007,m2)] (by simpa using hd) (by simp [ResIds,crG,crM]) (by simp [crG,dG]) (by simp [crM,dMs]) (.cons (.ptr _ _ (by first|(simp [ResIds];done)|(simp [ResIds,dG,dMs];done)|(simp [ResIds,dG,dMs,crG,crM];done)|(simp [ResIds,dG,dMs,jG];done))) (.cons (.low _ (by exact lw)) .nil)) ?_ ?_ ?_ ?_ (.cons _ _ _ _ _ (RenM.low (dM_low _)) (.cons _ _ _ _ _ (RenM.low (dM_low _)) .nil))<;>exact ren0
theorem prefL_eq {r:PRef} (h:r.dig.length=16):prefL r=pint r.kind :: pint r.id :: r.dig.map pbyte:=by
 have:=dig16 h
 unfold prefL dg
 rw [←this]
 rfl
theorem ref_eqs {x y:PRef} (hx:x.dig.length=16) (hy:y.dig.length=16):peqs [.int, .int, .int, .int, .int, .int, .int, .int, .int, .int, .int, .int, .int, .int, .int, .int, .int, .int] (prefL x) (prefL y)=some (decide (x=y)):=by
 rw [prefL_eq hx,prefL_eq hy]
 have h1:=peqs_ints (k:=.u8) x.dig y.dig (by rw [hx,hy])
 rw [hx] at h1
 have h2:peqs [.int, .int, .int, .int, .int, .int, .int, .int, .int, .int, .int, .int, .int, .int, .int, .int] (x.dig.map pbyte) (y.dig.map pbyte)=some (x.dig == y.dig):=h1
 show (match veq .int (.int .i64 x.kind) (.int .i64 y.kind),(match veq .int (.int .i64 x.id) (.int .i64 y.id),peqs [.int, .int, .int, .int, .int, .int, .int, .int, .int, .int, .int, .int, .int, .int, .int, .int] (x.dig.map pbyte) (y.dig.map pbyte) with|some r,some s=>some (r && s)|_,_=>none) with|some r,some s=>some (r && s)|_,_=>none)=_
 rw [h2]
 simp only [veq,if_true]
 congr 1
 obtain ⟨a,b,c⟩:=x
 obtain ⟨d,e,f⟩:=y
 simp only [PRef.mk.injEq]
 by_cases e1:a=d<;>by_cases e2:b=e<;>by_cases e3:c=f<;>simp [e1,e2,e3]
theorem getD_dig {l:List PRef} {k:Nat} (h:k < l.length) (hd:∀r∈l,r.dig.length=16):(l.getD k default).dig.length=16:=hd _ (List.mem_of_getElem? (getD_row h))
theorem take_row {a b:List PRef} {k:Nat} (ha:k < a.length) (hb:k < b.length) (h:a.take k=b.take k) (e:a.getD k default=b.getD k default):a.take (k+1)=b.take (k+1):=by
 rw [List.take_add_one,List.take_add_one,h,getD_row ha,getD_row hb,e]
set_option maxRecDepth 10000 in
set_option maxHeartbeats 1000000 in
theorem pw_sameRefs (a b:List PRef) (h1:a.length≤1000000000) (h2:b.length≤1000000000) (d1:∀r∈a,r.dig.length=16) (d2:∀r∈b,r.dig.length=16):PCalls Tryz.prog 19 [prefs a,prefs b] (· = pbool (decide (a=b))):=by
 have hl1:Low (prefs a):=(low_prefs _).2 trivial
 have hl2:Low (prefs b):=(low_prefs _).2 trivial
 refine pcalls_of_pw typeTab_ok Tryz.func19 rfl (by kernel_rfl) (by simp [low_pint,low_pints,low_pstr,low_pbool,low_pbytes,low_pstrs,low_prefs]) (by simp [pint,pints,pstr,pbool,pstrs,pbytes,PV.ownB,prefs]) (by rw [Tryz.ntmps19];simp) ?_
 rw [Tryz.ntmps19,Tryz.results19]
 have f1:=rows_len a
 have f2:=rows_len b
 by_cases hlen:a.length=b.length
 ·refine wk ?_
  refine PW.loop (fun k:Nat=>(((bot.put 0 (prefs a)).put 1 (prefs b)).put 5 (pint k))) (fun k=>k≤a.length∧a.take k=b.take k) (fun k=>a.length - k) 0 ⟨by omega,by simp⟩ ?_ ?_
  ·exact sb
  ·rintro k ⟨hk,heq⟩
   by_cases hlt:k < a.length
   ·have hu:=fun _:Unit=>heq
    clear heq
    have he:=ref_eqs (getD_dig hlt d1) (getD_dig (l:=b) (k:=k) (by omega) d2)
    refine wk ?_
    by_cases hxy:a.getD k default=b.getD k default
    ·rw [decide_eq_true hxy] at he
     refine PWops.eqA rfl rfl rfl rfl rfl rfl rfl rfl he (.inr rfl) ?_
     clear he
     refine wk ?_
     refine loopP (k+1) ⟨by omega,take_row hlt (by omega) (hu ()) hxy⟩ (by omega) ?_
     exact sb
    ·rw [decide_eq_false hxy] at he
     refine PWops.eqA rfl rfl rfl rfl rfl rfl rfl rfl he (.inr rfl) ?_
     clear he
     refine wk ?_
     refine retP rfl (by exact lw) ?_
     have:a≠b:=by rintro rfl;exact hxy rfl
     simp [pbool,this]
   ·refine wk ?_
    refine retP rfl (by exact lw) ?_
    have:a=b:=by rw [List.take_of_length_le (by omega),List.take_of_length_le (by omega)] at heq;exact heq
    simp [pbool,this]
 ·refine wk ?_
  refine retP rfl (by exact lw) ?_
  have:a≠b:=by rintro rfl;exact hlen rfl
  simp [pbool,this]
set_option maxRecDepth 10000 in
set_option maxHeartbeats 1000000 in
theorem pw_sameInts (a b:List Int) (h1:a.length≤1000000000) (h2:b.length≤1000000000):PCalls Tryz.prog 44 [pints a,pints b] (· = pbool (decide (a=b))):=by
 have hl1:Low (pints a):=(low_pints _).2 trivial
 have hl2:Low (pints b):=(low_pints _).2 trivial
 refine pcalls_of_pw typeTab_ok Tryz.func44 rfl (by kernel_rfl) (by simp [low_pint,low_pints,low_pstr,low_pbool,low_pbytes,low_pstrs]) (by simp [pint,pints,pstr,pbool,pstrs,pbytes,PV.ownB]) (by rw [Tryz.ntmps44];simp) ?_
 rw [Tryz.ntmps44,Tryz.results44]
 by_cases hlen:a.length=b.length
 ·refine wk ?_
  refine PW.loop (fun k:Nat=>(((bot.put 0 (pints a)).put 1 (pints b)).put 5 (pint k))) (fun k=>k≤a.length∧a.take k=b.take k) (fun k=>a.length - k) 0 ⟨by omega,by simp⟩ ?_ ?_
  ·exact sb
  ·rintro k ⟨hk,heq⟩
   by_cases hlt:k < a.length
   ·have hu:=fun _:Unit=>heq
    clear heq
    by_cases hxy:a.getD k default=b.getD k default
    ·refine wk ?_
     refine loopP (k+1) ⟨by omega,?_⟩ (by omega) ?_
     ·rw [List.take_add_one,List.take_add_one,hu ()]
      have e1:a[k]? = some (a.getD k default):=by rw [List.getD_eq_getElem?_getD,List.getElem?_eq_getElem hlt];rfl
      have e2:b[k]? = some (b.getD k default):=by rw [List.getD_eq_getElem?_getD,List.getElem?_eq_getElem (by omega)];rfl
      rw [e1,e2,hxy]
     exact sb
    ·refine wk ?_
     refine retP rfl (by exact lw) ?_
     have:a≠b:=by rintro rfl;exact hxy rfl
     simp [pbool,this]
   ·refine wk ?_
    refine retP rfl (by exact lw) ?_
    have:a=b:=by rw [List.take_of_length_le (by omega),List.take_of_length_le (by omega)] at heq;exact heq
    simp [pbool,this]
 ·refine wk ?_
  refine retP rfl (by exact lw) ?_
  have:a≠b:=by rintro rfl;exact hlen rfl
  simp [pbool,this]
theorem man_ext {a b:PMan} : a=b↔a.ver=b.ver∧a.notes=b.notes∧a.refs=b.refs:=by
 obtain ⟨x,y,z⟩:=a;obtain ⟨u,v,w⟩:=b;simp
instance:DecidableEq PMan:=fun a b=>decidable_of_iff _ (man_ext (a:=a) (b:=b)).symm
set_option maxRecDepth 10000 in
set_option maxHeartbeats 1000000 in
theorem pw_same (a b:PMan) (h1:a.notes.length≤1000000000∧a.refs.length≤1000000000) (h2:b.notes.length≤1000000000∧b.refs.length≤1000000000) (d1:∀r∈a.refs,r.dig.length=16) (d2:∀r∈b.refs,r.dig.length=16):PCalls Tryz.prog 14 [pman a,pman b] (· = pbool (decide (a=b))):=by
 have c1:=pw_sameInts a.notes b.notes h1.1 h2.1
 have c2:=pw_sameRefs a.refs b.refs h1.2 h2.2 d1 d2
 have hla:=low_pmanL a
 have hlb:=low_pmanL b
 have heq:=man_ext (a:=a) (b:=b)
 refine pcalls_of_pw typeTab_ok Tryz.func14 rfl (by kernel_rfl) (by simp [low_pint,low_pints,low_pstr,low_pbool,low_pbytes,low_pstrs,low_pman]) (by simp [pint,pints,pstr,pbool,pstrs,pbytes,PV.ownB,pman]) (by rw [Tryz.ntmps14];simp) ?_
 rw [Tryz.ntmps14,Tryz.results14]
 by_cases e1:a.ver=b.ver
 ·by_cases e2:a.notes=b.notes
  ·rw [decide_eq_true e2] at c1
   by_cases e3:a.refs=b.refs
   ·rw [decide_eq_true e3] at c2
    rw [decide_eq_true (heq.2 ⟨e1,e2,e3⟩)]
    clear heq
    refine wk ?_
    exact retP rfl (by exact lw) rfl
   ·rw [decide_eq_false e3] at c2
    rw [decide_eq_false (fun h=>e3 (heq.1 h).2.2)]
    clear heq
    refine wk ?_
    exact retP rfl (by exact lw) rfl
  ·rw [decide_eq_false e2] at c1
   rw [decide_eq_false (fun h=>e2 (heq.1 h).2.1)]
   clear heq
   refine wk ?_
   exact retP rfl (by exact lw) rfl
 ·rw [decide_eq_false (fun h=>e1 (heq.1 h).1)]
  clear heq
  refine wk ?_
  exact retP rfl (by exact lw) rfl
def posR (l:List PRef) (t:PRef):Nat:=(l.takeWhile fun r=>refLt r t).length
theorem posR_at {t:PRef} : ∀{l:List PRef} {j:Nat},j≤l.length→(∀x,x < j→refLt (l.getD x default) t=true)→(j < l.length→refLt (l.getD j default) t=false)→posR l t=j
 | [],j,h,_,_=>by simp at h;subst h;rfl
 |r :: l,0,_,_,h2=>by
  have:=h2 (by simp)
  simp only [posR]
  have e:refLt r t=false:=this
  rw [List.takeWhile_cons_of_neg (by rw [e];simp)];rfl
 |r :: l,j+1,h,h1,h2=>by
  have e:refLt r t=true:=h1 0 (by omega)
  have ih:=posR_at (t:=t) (l:=l) (j:=j) (by simpa using h) (fun x hx=>h1 (x+1) (by omega)) (fun hj=>h2 (by simpa using hj))
  simp only [posR] at ih ⊢
  rw [List.takeWhile_cons_of_pos (p:=fun r=>refLt r t) e,List.length_cons,ih]
theorem refLt_ltK (r t:PRef):refLt r t=ltK r t.kind t.id:=rfl
def foundR (l:List PRef) (t:PRef):Bool:=decide (posR l t < l.length) && decide (ordR (l.getD (posR l t) default) t=0)
theorem mid_eq (i j : Nat) (h : i + j ≤ 4000000000) : IntKind.i64.wrap ((IntKind.u64.wrap ((i : Int) + (j : Int))).fdiv (2 ^ min (Int.toNat 1) IntKind.u64.bits)) = (((i + j) / 2 : Nat) : Int) := by
  have h1 : IntKind.u64.wrap ((i : Int) + (j : Int)) = (i : Int) + j := by
    show ((i : Int) + j).emod (2 ^ 64) = _
    exact Int.emod_eq_of_lt (by omega) (by have : (2 : Int) ^ 64 = 18446744073709551616 := by decide
                                           omega)
  have h2 : (2 : Int) ^ min (Int.toNat 1) IntKind.u64.bits = 2 := rfl
  rw [h1, h2, wrap64_id]
  · rw [Int.fdiv_eq_ediv_of_nonneg _ (by decide)]; omega
  · rw [Int.fdiv_eq_ediv_of_nonneg _ (by decide)]; omega
  · rw [Int.fdiv_eq_ediv_of_nonneg _ (by decide)]; omega
theorem lo_fn (f:FuncId):Low (.fn f []):=.fn _ _ (by simp)
set_option maxRecDepth 10000 in
set_option maxHeartbeats 2000000 in
theorem pw_search (l:List PRef) (t:PRef) (hl:l.length≤1000000000) (hs:risesM l=true):PCalls Tryz.prog 45 [prefs l,pref t, .fn 46 []] (· = .tup [pint (posR l t),pbool (foundR l t)]):=by
 have hl1:Low (prefs l):=(low_prefs _).2 trivial
 have hl2:=low_prefL t
 have hl3:=lo_fn 46
 refine pcalls_of_pw typeTab_ok Tryz.func45 rfl (by kernel_rfl) (by simp [low_pint,low_pints,low_pstr,low_pbool,low_pbytes,low_pstrs,low_prefs,low_pref,lo_fn]) (by simp [pint,pints,pstr,pbool,pstrs,pbytes,PV.ownB,prefs,pref]) (by rw [Tryz.ntmps45];simp) ?_
 rw [Tryz.ntmps45,Tryz.results45]
 have f1:=rows_len l
 have hmono:=fun x y=>ltK_mono (l:=l) hs (k:=t.kind) (i:=t.id) (x:=x) (y:=y)
 refine wk ?_
 refine PW.loop (fun p:Nat×Nat=>(((((((bot.setb 0 (prefL t)).put 0 (prefs l)).put 2 (.fn 46 [])).put 4 (.ptr 0 0)).put 8 (pint l.length)).put 9 (pint p.1)).put 10 (pint p.2))) (fun p=>p.1≤p.2∧p.2≤l.length∧(∀x,x < p.1→refLt (l.getD x default) t=true)∧(∀x,p.2≤x→x < l.length→refLt (l.getD x default) t=false)) (fun p=>p.2 - p.1) (0,l.length) ⟨by simp,by simp,fun x hx=>by simp at hx,fun x h1 h2=>by simp at h1;omega⟩ ?_ ?_
 ·exact sb
 ·rintro ⟨i,j⟩ ⟨h1,h2,h3,h4⟩
  simp only at h1 h2 h3 h4
  by_cases hlt:i < j
  ·have hu:=fun _:Unit=>And.intro h3 h4
   clear h3 h4
   refine wk ?_
   rw [mid_eq (i,j).1 (i,j).2 (by simp only;omega)]
   obtain ⟨m,hm⟩:∃m,m=((i,j).1+(i,j).2) / 2:=⟨_,rfl⟩
   rw [←hm]
   simp only at hm
   have hmj:i≤m∧m < j:=by omega
   have ho:=pw_order (l.getD m default) t
   have hz:=ordR_lt (a:=l.getD m default) (b:=t)
   generalize ordR (l.getD m default) t=z at *
   by_cases hz0:z < 0
   ·refine wk ?_
    refine loopP (m+1,j) ⟨by simp only;omega,h2,?_,(hu ()).2⟩ (by simp only;omega) ?_
    ·intro x hx
     simp only at hx
     exact hmono x m (by omega) (by omega) (hz.1 hz0)
    exact sb
   ·refine wk ?_
    refine loopP (i,m) ⟨by simp only;omega,by simp only;omega,(hu ()).1,?_⟩ (by simp only;omega) ?_
    ·intro x hx hxl
     simp only at hx
     cases e:refLt (l.getD x default) t with
     |false=>rfl
     |true=>exact absurd (hz.2 (hmono m x hx hxl e)) hz0
    exact sb
  ·obtain rfl:i=j:=by omega
   have hp:posR l t=i:=posR_at h2 h3 (fun h=>h4 i (Nat.le_refl _) h)
   clear h3 h4 hmono
   unfold foundR
   rw [hp]
   by_cases hlt2:i < l.length
   ·have ho:=pw_order (l.getD i default) t
    generalize ordR (l.getD i default) t=z at *
    by_cases hz0:z=0
    ·refine wk ?_
     refine retP (r:=.tup [pint i,pbool true]) rfl (by exact lw) ?_
     simp [pbool,hlt2,hz0]
    ·refine wk ?_
     refine retP (r:=.tup [pint i,pbool false]) rfl (by exact lw) ?_
     simp [pbool,hz0]
   ·refine wk ?_
    refine retP (r:=.tup [pint i,pbool false]) rfl (by exact lw) ?_
    simp [pbool,hlt2]
def zeroR:PRef:=⟨0,0,[0,0,0,0,0,0,0,0,0,0,0,0,0,0,0,0]⟩
def hasO (o:Option PRef):PV:=.tup [pref (o.getD zeroR),pbool o.isSome]
theorem posR_spec {t:PRef} : ∀(l:List PRef),posR l t≤l.length∧(∀x,x < posR l t→refLt (l.getD x default) t=true)∧(posR l t < l.length→refLt (l.getD (posR l t) default) t=false)
 | []=>⟨Nat.zero_le _,fun x hx=>by simp [posR] at hx,fun h=>by simp at h⟩
 |r :: l=>by
  obtain ⟨h1,h2,h3⟩:=posR_spec (t:=t) l
  cases e:refLt r t with
  |true=>
   have hp:posR (r :: l) t=posR l t+1:=by
    unfold posR
    rw [List.takeWhile_cons_of_pos (p:=fun r=>refLt r t) e,List.length_cons]
   rw [hp]
   refine ⟨by simpa using h1,fun x hx=>?_,fun h=>h3 (by simpa using h)⟩
   cases x with
   |zero=>exact e
   |succ x=>exact h2 x (by omega)
  |false=>
   have hp:posR (r :: l) t=0:=by
    unfold posR
    rw [List.takeWhile_cons_of_neg (p:=fun r=>refLt r t) (by rw [e];simp)];rfl
   rw [hp]
   exact ⟨Nat.zero_le _,fun x hx=>by omega,fun _=>e⟩
theorem has_pos {l:List PRef} (hs:risesM l=true) (k i:Int) (d:List Int):hasR l k i=if foundR l ⟨k,i,d⟩=true then some (l.getD (posR l ⟨k,i,d⟩) default) else none:=by
 obtain ⟨h1,h2,h3⟩:=posR_spec (t:=⟨k,i,d⟩) l
 rw [has_split hs (j:=posR l ⟨k,i,d⟩) (k:=k) (i:=i) (fun x hx hxl=>?_) (fun x hx _=>h2 x hx)]
 ·unfold foundR
  simp only [Bool.and_eq_true,decide_eq_true_eq,ordR_zero]
 ·cases e:ltK (l.getD x default) k i with
  |false=>rfl
  |true=>
   have:=ltK_mono hs hx hxl e
   have h4:=h3 (by omega)
   rw [refLt_ltK] at h4
   rw [this] at h4;cases h4
set_option maxRecDepth 10000 in
set_option maxHeartbeats 2000000 in
theorem pw_has (m:PMan) (k i:Int) (hl:m.refs.length≤1000000000) (hs:risesM m.refs=true):PCalls Tryz.prog 16 [pman m,pint k,pint i] (· = hasO (hasR m.refs k i)):=by
 have hc:=pw_search m.refs ⟨k,i,[]⟩ hl hs
 have hlm:=low_pmanL m
 have hlz:=low_prefL zeroR
 have hp:=has_pos hs k i []
 have hps:=(posR_spec (t:=⟨k,i,[]⟩) m.refs).1
 refine pcalls_of_pw typeTab_ok Tryz.func16 rfl (by kernel_rfl) (by simp [low_pint,low_pints,low_pstr,low_pbool,low_pbytes,low_pstrs,low_pman]) (by simp [pint,pints,pstr,pbool,pstrs,pbytes,PV.ownB,pman]) (by rw [Tryz.ntmps16];simp) ?_
 rw [Tryz.ntmps16,Tryz.results16]
 have f1:=rows_len m.refs
 rw [hp]
 have hft:foundR m.refs ⟨k,i,[]⟩=true→posR m.refs ⟨k,i,[]⟩ < m.refs.length:=fun h=>by simp only [foundR,Bool.and_eq_true,decide_eq_true_eq] at h;exact h.1
 clear hp
 generalize posR m.refs ⟨k,i,[]⟩=j at *
 cases hf:foundR m.refs ⟨k,i,[]⟩ with
 |true=>
  rw [hf] at hc
  have hj:=hft hf
  clear hft hf
  rw [if_pos rfl]
  have hlr:=low_prefL (m.refs.getD j default)
  refine wk ?_
  refine retP (r:=hasO (some (m.refs.getD j default))) rfl (.tup _ (by simp only [List.mem_cons,List.not_mem_nil,or_false];rintro x (rfl|rfl);exact (low_pref _).2 trivial;exact .val _)) rfl
 |false=>
  rw [hf] at hc
  clear hft hf
  rw [if_neg (by simp)]
  refine wk ?_
  refine retP (r:=hasO none) rfl (.tup _ (by simp only [List.mem_cons,List.not_mem_nil,or_false];rintro x (rfl|rfl);exact (low_pref _).2 trivial;exact .val _)) rfl
def m1S:PMan:=⟨1,[5],refs0⟩
def m2S:PMan:=⟨2,[],[refs0.getD 1 default,refs0.getD 0 default]⟩
theorem m1_ok:checkM 2 3 m1S=0∧DigsOK m1S:=⟨by decide,by unfold DigsOK;decide⟩
theorem m2_bad:checkM 2 3 m2S=3:=by decide
theorem newD_reads {n s:Nat} (h:s * 256 < n):readT (newD n) 0 s=none:=by
 refine readT_none (.inr ?_)
 have hr:=(newD_ok n).read (q:=((0+s * 256:Nat):Int)) (by omega) (by omega)
 unfold secD
 rw [hr]
 have hg:(newD n).get ((0+s * 256:Nat):Int) = []:=by rw [get_find];rfl
 have hc:(newD n).cell ((0+s * 256:Nat):Int)=⟨zeroSec,false⟩:=by
  unfold DM.cell newD
  simp only [List.getD_eq_getElem?_getD]
  rw [List.getElem?_replicate,if_pos (by omega)]
  rfl
 rw [hg,hc]
 rfl
theorem crash0_ok {n k:Nat} {D:DM} (h:OkD n k D):OkD n 0 D.crash0:=⟨rfl,rfl,h.len,⟨Int.le_refl _,by simp [DM.crash0]⟩,⟨by simp [DM.crash0],by simp [DM.crash0]⟩,by simp [DM.crash0]⟩
theorem read_crash0 {n k:Nat} {D:DM} (h:OkD n k D) (hop:D.op = []) {q:Int} (q0:0≤q) (q1:q < n):D.crash0.read q=D.read q:=by
 rw [(crash0_ok h).read q0 q1,h.read q0 q1]
 have g1:D.crash0.get q = []:=by rw [get_find];rfl
 have g2:D.get q = []:=by rw [get_find,hop];rfl
 rw [g1,g2]
 rfl
theorem readT_crash0 {n k:Nat} {D:DM} (h:OkD n k D) (hop:D.op = []) {at_ s:Nat} (hn:at_+1024≤n) (hs:s≤3):readT D.crash0 at_ s=readT D at_ s:=
 readT_congr fun i h1 h2=>read_crash0 h hop (by omega) (by omega)
theorem readT_rot_ne {n k:Nat} {D:DM} (h:OkD n k D) (hop:D.op = []) {at_ s:Nat} (hn:at_+1024≤n) (hs:s≤3) {q:Int} (q0:0≤q) (q1:q < n) (hq:q < at_+s * 256∨(at_:Int)+s * 256+256≤q):readT (D.rot q) at_ s=readT D at_ s:=
 readT_congr fun i h1 h2=>by rw [h.read_rot hop q0 q1 (by omega) (by omega),if_neg (by omega)]
theorem readT_rot {n k:Nat} {D:DM} (h:OkD n k D) (hop:D.op = []) {at_ s:Nat} (hn:at_+1024≤n) (hs:s≤3):readT (D.rot ((at_+s * 256:Nat):Int)) at_ s=none:=by
 refine readT_none (.inl ?_)
 unfold secD
 rw [h.read_rot hop (by omega) (by omega) (by omega) (by omega),if_pos rfl]
 rfl
theorem spoilt_list {rd:Nat→Option PMan} {v f:Int} {n:Nat} {a b:Int} (hst:spP (copiesM rd) v f (copiesM rd).length=(n,a,b)) : [a,b].take n = [f,f+1].filter fun k=>decide (∀y∈copiesM rd,y.2.ver=v→k≠(y.1:Int)):=by
 have h:=listN_spP (C:=copiesM rd) (v:=v) (f:=f) _ (Nat.le_refl _)
 rw [hst,List.take_length] at h
 exact h
theorem spoilt_none {rd:Nat→Option PMan} {v:Int} {f:Nat} {n:Nat} {a b:Int} (hst:spP (copiesM rd) v f (copiesM rd).length=(n,a,b)) (hf:f≤2) {x y:PMan} (h1:rd f=some x) (h2:rd (f+1)=some y) (v1:x.ver=v) (v2:y.ver=v) : [a,b].take n = []:=by
 rw [spoilt_list hst,List.filter_eq_nil_iff]
 intro k hk
 simp only [List.mem_cons,List.not_mem_nil,or_false] at hk
 simp only [decide_eq_true_eq]
 intro h
 rcases hk with rfl|rfl
 ·exact h (f,x) (mem_copies.2 ⟨by simp only;omega,h1⟩) v1 rfl
 ·exact h (f+1,y) (mem_copies.2 ⟨by simp only;omega,h2⟩) v2 (by simp)
theorem san1:∃D1,D1=(newD 1024).turn 0 m1S∧OkD 1024 516 D1∧D1.op = []∧(∀s:Nat,s≤1→readT D1 0 s=none)∧readT D1 0 2=some m1S∧readT D1 0 3=some m1S:=by
 obtain ⟨k1,k2⟩:=slotM_ok m1_ok.1 m1_ok.2
 obtain ⟨o1,p1,r1⟩:=turn_spec (newD_ok 1024) (at_:=0) (m:=m1S) (by omega) k1 (by omega) (okM m1_ok.1 m1_ok.2).2.2 m1_ok.2 k2
 refine ⟨_,rfl,o1,p1,fun s hs=>?_,?_,?_⟩
 ·rw [r1 s (by omega),if_neg (by unfold firstI m1S;simp only;omega)]
  exact newD_reads (by omega)
 ·rw [r1 2 (by omega),if_pos (by unfold firstI m1S;simp only;omega)]
 ·rw [r1 3 (by omega),if_pos (by unfold firstI m1S;simp only;omega)]
theorem san3 {D1:DM} (o1:OkD 1024 516 D1) (p1:D1.op = []) (r1:∀s:Nat,s≤1→readT D1 0 s=none) (r3:readT D1 0 3=some m1S):OkD 1024 0 (D1.crash0.rot 512)∧(D1.crash0.rot 512).op = []∧(∀s:Nat,s≤2→readT (D1.crash0.rot 512) 0 s=none)∧readT (D1.crash0.rot 512) 0 3=some m1S:=by
 have o2:=crash0_ok o1
 obtain ⟨q1,q2,-⟩:=o2.rot 512
 refine ⟨q1,q2,fun s hs=>?_,?_⟩
 ·by_cases h:s=2
  ·subst h
   exact readT_rot o2 rfl (at_:=0) (s:=2) (by omega) (by omega)
  ·rw [readT_rot_ne o2 rfl (by omega) (by omega) (by omega) (by omega) (by omega),readT_crash0 o1 p1 (by omega) (by omega)]
   exact r1 s (by omega)
 ·rw [readT_rot_ne o2 rfl (by omega) (by omega) (by omega) (by omega) (by omega),readT_crash0 o1 p1 (by omega) (by omega)]
  exact r3
theorem san_best {D:DM} (h0:∀s:Nat,s≤2→readT D 0 s=none) (h3:readT D 0 3=some m1S):bestM (readT D 0)=m1S:=
 best_is (by decide) (s:=3) (by omega) h3 (fun k m hk hm=>by
  by_cases e:k=3
  ·subst e;rw [h3] at hm;cases hm;exact .inl rfl
  ·rw [h0 k (by omega)] at hm;cases hm)
theorem san_spoilt {D:DM} (h0:∀s:Nat,s≤2→readT D 0 s=none) (h3:readT D 0 3=some m1S) {n:Nat} {a b:Int} (hst:spP (copiesM (readT D 0)) m1S.ver (firstI m1S.ver) (copiesM (readT D 0)).length=(n,a,b)):n=1 ∧ [a,b].take n = [2]:=by
 have hL : [a,b].take n = [2]:=by
  have e:copiesM (readT D 0) = [(3,m1S)]:=by
   unfold copiesM
   rw [show List.range 4 = [0,1,2,3] from rfl]
   simp [h0 0 (by omega),h0 1 (by omega),h0 2 (by omega),h3]
  rw [spoilt_list hst,e]
  decide
 have hl:=congrArg List.length hL
 have hle:=spP_le (copiesM (readT D 0)) m1S.ver (firstI m1S.ver) (copiesM (readT D 0)).length
 rw [hst] at hle
 simp only [List.length_take,List.length_cons,List.length_nil] at hl hle
 exact ⟨by omega,hL⟩
set_option maxRecDepth 10000 in
set_option maxHeartbeats 4000000 in
theorem pw_sanity32:PCalls Tryz.prog 7 [] (· = pbool true):=by
 have hrefs:PCalls Tryz.prog 31 [] (· = .sl 2 18 (refs0.flatMap prefL) none):=pw_refs
 obtain ⟨k1,k2⟩:=slotM_ok m1_ok.1 m1_ok.2
 obtain ⟨e1,e2,e3⟩:=okM m1_ok.1 m1_ok.2
 have kN:=dc_New 1024 (by omega) 900001 900002 900003 (by decide)
 have kO:=tc_Open (newD 1024) 0 (by decide) rfl (by decide) rfl 900004 900001 900002 900003 (by decide)
 rw [show bestM (readT (newD 1024) 0)=zeroM from best_zero (fun k hk=>newD_reads (by omega))] at kO
 have kNow0:=tc_Now (t:=900004) (d:=900001) (c:=900002) (m':=900003) (by decide) (newD 1024) 0 zeroM ⟨by decide,by decide⟩
 have kC0:=tc_Copies0 (t:=900004) (d:=900001) (c:=900002) (m':=900003) (by decide) (newD 1024) 0 zeroM rfl rfl rfl
 have kT1:=tc_Turn (t:=900004) (d:=900001) (c:=900002) (m':=900003) (by decide) (newD_ok 1024) 0 zeroM m1S (by omega) (by omega) (by omega) rfl (by decide) m1_ok.1 e1 k1 e2
 obtain ⟨D1,hD1,o1,p1,r0,r2,r3⟩:=san1
 rw [←hD1] at kT1
 have kNow1:=tc_Now (t:=900004) (d:=900001) (c:=900002) (m':=900003) (by decide) D1 0 m1S e2
 have kT2:=tc_TurnE (t:=900004) (d:=900001) (c:=900002) (m':=900003) (by decide) D1 0 m1S m2S rfl (by decide) (by rw [m2_bad];decide) ⟨by decide,by decide⟩
 rw [m2_bad] at kT2
 obtain ⟨o3,p3,q0,q3⟩:=san3 o1 p1 r0 r3
 have kCr:=dc_Crash0 D1 [] (by rw [o1.len];decide) p1 900001 900002 900003 900005 900006 900007 (by decide)
 have kRot:=dc_Rot D1.crash0 512 900005 900006 900007 (by decide)
 rw [show D1.crash0.check 512=0 from (crash0_ok o1).check0 (by omega) (by omega)] at kRot
 generalize hD3:D1.crash0.rot 512=D3 at *
 have kO3:=tc_Open D3 0 (by rw [o3.len];decide) p3 (by rw [o3.len];decide) o3.dead 900008 900005 900006 900007 (by decide)
 rw [san_best q0 q3] at kO3
 have kNow3:=tc_Now (t:=900008) (d:=900005) (c:=900006) (m':=900007) (by decide) D3 0 m1S e2
 obtain ⟨n,a,b,hst⟩:∃n a b,spP (copiesM (readT D3 0)) m1S.ver (firstI m1S.ver) (copiesM (readT D3 0)).length=(n,a,b):=⟨_,_,_,rfl⟩
 obtain ⟨hn1,hL⟩:=san_spoilt q0 q3 hst
 subst hn1
 have kC3:HCalls Tryz.prog 28 [.ptr 900008 0] (tG 900008 900005 900006 900007 0 m1S D3) (dMs 900007 D3) (pint 1) (tG 900008 900005 900006 900007 0 m1S D3) (dMs 900007 D3):=tc_Copies (by decide) D3 0 m1S (by rw [o3.len];decide) p3 (by omega) o3.dead (by decide) (by decide) 1 a b hst
 have kM:HCalls Tryz.prog 29 [.ptr 900008 0] (tG 900008 900005 900006 900007 0 m1S D3) (dMs 900007 D3) (.tup [pint 1,pint 0]) (tG 900008 900005 900006 900007 0 m1S (D3.mend 0 [2] m1S)) (dMs 900007 (D3.mend 0 [2] m1S)):=tc_Mend (by decide) o3 0 m1S p3 (by omega) (by omega) (by omega) (by decide) (by decide) e1 k1 1 a b hst [2] hL.symm (by decide)
 obtain ⟨o4,p4,r4⟩:=mend_spec o3 p3 (at_:=0) (m:=m1S) (l := [2]) (by decide) (by decide) (by omega) k1 (by omega) e3 m1_ok.2 k2
 generalize D3.mend 0 [2] m1S=D4 at *
 obtain ⟨n4,a4,b4,hst4⟩:∃n a b,spP (copiesM (readT D4 0)) m1S.ver (firstI m1S.ver) (copiesM (readT D4 0)).length=(n,a,b):=⟨_,_,_,rfl⟩
 have hL4:=spoilt_none (f:=2) (v:=m1S.ver) (rd:=readT D4 0) hst4 (by omega) (x:=m1S) (y:=m1S) (by rw [r4 2 (by omega),if_pos (by decide)]) (by rw [r4 3 (by omega),if_neg (by decide)];exact q3) rfl rfl
 have hn4:n4=0:=by
  have:=congrArg List.length hL4
  simp only [List.length_take,List.length_cons,List.length_nil] at this
  omega
 subst hn4
 have kC4:HCalls Tryz.prog 28 [.ptr 900008 0] (tG 900008 900005 900006 900007 0 m1S D4) (dMs 900007 D4) (pint 2) (tG 900008 900005 900006 900007 0 m1S D4) (dMs 900007 D4):=tc_Copies (by decide) D4 0 m1S (by rw [o4.len];decide) p4 (by omega) o4.dead (by decide) (by decide) 0 a4 b4 hst4
 have kSR:=pw_sameRefs refs0 refs0 (by decide) (by decide) (by decide) (by decide)
 have kS:=pw_same m1S m1S (by decide) (by decide) (by decide) (by decide)
 have kH:=pw_has m1S 1 9 (by decide) (by decide)
 rw [decide_eq_true rfl] at kSR kS
 rw [show hasO (hasR m1S.refs 1 9) = .tup [.agg (prefL (refs0.getD 1 default)),pbool true] from rfl] at kH
 have kT2' : HCalls Tryz.prog 30 [.ptr 900004 0, .nilsl,prefs m2S.refs] (tG 900004 900001 900002 900003 0 m1S D1) (dMs 900003 D1) (pint 3) (tG 900004 900001 900002 900003 0 m1S D1) (dMs 900003 D1):=hcalls_weakA kT2 (.cons (.refl _) (.cons (.nil 1) (.cons (.refl _) .nil)))
 have kCr' : HCalls Tryz.prog 26 [.ptr 900001 0, .nilsl] (dG 900001 900002 900003 D1) (dMs 900003 D1) (.ptr 900005 0) (crG 900001 900002 900003 900005 900006 900007 D1 D1.crash0) (crM 900003 900007 D1 D1.crash0):=hcalls_weakA kCr (.cons (.refl _) (.cons (.nil 1) .nil))
 clear kT2 kCr hst hL hst4 hL4 o1 o3 o4 p1 p3 p4 r0 r2 r3 r4 q0 q3 k1 k2 e1 e2 e3 hD1 hD3
 have kNow1u:=fun _:Unit=>kNow1
 have kC4u:=fun _:Unit=>kC4
 have kO3u:=fun _:Unit=>kO3
 clear kNow1 kC4 kO3
 refine pcalls_of_pw typeTab_ok Tryz.func7 rfl (by kernel_rfl) (by simp) (by simp) (Nat.le_of_ble_eq_true rfl) ?_
 refine wk ?_
 have kNow1:=kNow1u ()
 clear kNow0
 refine wk ?_
 have kO3:=kO3u ()
 clear kO
 refine wg ?_
 refine PW.drawF (fun i id=>Nat.beq i 30 && Nat.beq id 6002) typeTab_ok (by kernel_rfl) (by kernel_rfl) (by kernel_rfl) ?_
 refine wk ?_
 have kC4:=kC4u ()
 clear kC3
 refine wk ?_
 exact retP rfl (.val _) rfl
end
end Go.Proofs.YtmeekbjhpidcgaaGreatDoor
