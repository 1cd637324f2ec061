/- Out of: Uz, Ub2, Uc2, Ud2, Uf2, Uh2, Ui2, Uj2. -/
import Derived.Test.YtmeekbjhpidcgaaDoorG34
import Derived.Test.YtmeekbjhpidcgaaDoorG35
import Derived.Test.YtmeekbjhpidcgaaDoorG43
import Derived.Test.YtmeekbjhpidcgaaDoorG45
namespace Go.Proofs.YtmeekbjhpidcgaaDoor
set_option linter.unusedSimpArgs false
set_option linter.unusedVariables false
set_option linter.unnecessarySimpa false
section
open Go.RowKit
variable {M:Nat} {P:Program} {σ:PS}
theorem PW.boxTake {c:Code} {Q:Exit→PS→Prop} {id:Nat} {bs cs r:List PV} (hb:σ.b id=some bs) (hc:bs=cs ++ r) (h:PW P M c Q (σ.setb id cs)):PW P M c Q σ:=by
 intro Φ0 W a w ⟨Φ,μ,ω,hg⟩
 exact h Φ0 W a w ⟨Φ,μ,ω,hg.boxTake hb hc⟩
end
section
open Go.RowKit
def DM.wrs (D:DM) (at_:Nat) (l:List Int) (m:PMan):DM:=l.foldl (fun D s=>D.wr at_ s.toNat m) D
theorem wrs_snoc (D:DM) (at_:Nat) (l:List Int) (s:Int) (m:PMan):D.wrs at_ (l ++ [s]) m=(D.wrs at_ l m).wr at_ s.toNat m:=by
 unfold DM.wrs;rw [List.foldl_append];rfl
set_option maxRecDepth 10000 in
theorem OkD.wrs {n:Nat} {at_:Nat} {m:PMan} (hn:at_+1024≤n) (hS:(slotM hfT m).length≤16384):∀(l:List Int) {k:Nat} {D:DM},OkD n k D→(∀s∈l,0≤s∧s≤3)→k+256 * l.length≤100000000→OkD n (k+256 * l.length) (D.wrs at_ l m)
 | [],k,D,h,_,_=>by simpa [DM.wrs] using h
 |s :: l,k,D,h,hl,hk=>by
  simp only [List.length_cons] at hk ⊢
  have h0:=hl s (List.mem_cons_self ..)
  have e1:s.toNat≤3:=by clear hS;omega
  have e2:k+256≤100000000:=by clear hS;omega
  have e3:k+256+256 * l.length≤100000000:=by clear hS;omega
  have h2:=h.wr (slot:=s.toNat) (m:=m) e1 hn hS e2
  have h1:=OkD.wrs hn hS l h2 (fun x hx=>hl x (List.mem_cons_of_mem _ hx)) e3
  rw [show k+256 * (l.length+1)=k+256+256 * l.length by clear hS h1 h2;omega]
  exact h1
def DM.mend (D:DM) (at_:Nat) (l:List Int) (m:PMan):DM:=if l = [] then D else ((D.clr at_ l).wrs at_ l m).sync.2
set_option maxRecDepth 10000 in
set_option maxHeartbeats 2000000 in
theorem tc_Mend1 {N k:Nat} {D:DM} (h:OkD N k D) (at_:Nat) (now:PMan) (hop:D.op = []) (hn:at_+1024≤N) (hn2:N≤1000000000) (hk:k+1000≤100000000) (hv:0 < now.ver) (hv2:now.ver≤1000000000) (hm:EncM now) (hml:(slotM hfT now).length≤16384) (n:Nat) (a b:Int) (hst:spP (copiesM (readT D at_)) now.ver (firstI now.ver) (copiesM (readT D at_)).length=(n,a,b)) (L:List Int) (hL:L = [a,b].take n) (hLs:∀s∈L,0≤s∧s≤3) :
  HCalls Tryd.prog 18 [.ptr 1000004 0] (tG 1000004 1000001 1000002 1000003 at_ now D) (dMs 1000003 D) (.tup [pint L.length,pint 0]) (tG 1000004 1000001 1000002 1000003 at_ now (D.mend at_ L now)) (dMs 1000003 (D.mend at_ L now)):=by
 have hn2' : n≤2:=by have:=spP_le (copiesM (readT D at_)) now.ver (firstI now.ver) (copiesM (readT D at_)).length;rw [hst] at this;exact this
 have hLn:L.length=n:=by rw [hL,List.length_take];simp;omega
 have hLt : [pint a,pint b]=L.map pint ++ ([a,b].drop n).map pint:=by rw [hL,←List.map_append,List.take_append_drop];rfl
 have hlr:Low (prefs now.refs):=(low_prefs _).2 trivial
 have hlt:Low (pints now.notes):=(low_pints _).2 trivial
 have hlm:=low_pmanL now
 have c1:=dC_low D
 have c2:=dM_low D
 have hsp:=tc_spoiltB D at_ now (by rw [h.len];exact hn2) hop (by omega) hv hv2 n a b hst
 have hdn:=dc_Down D 1000001 1000002 1000003 (by decide)
 rw [h.dead] at hdn
 refine th_of_pw Tryd.func18 rfl rfl (by intro p hp;rcases List.mem_cons.1 hp with rfl|hp;exact .ptr _ _ (by simp);cases hp) (by simp [PV.ownB]) (Nat.le_of_ble_eq_true rfl) (low_tup.2 (by simp [low_pint])).lowI ?_
 clear hst
 refine wg ?_
 refine PW.region typeTab_ok (by kernel_rfl) ?_
 refine wg ?_
 refine PW.region typeTab_ok (by kernel_rfl) ?_
 refine wg ?_
 refine PW.region typeTab_ok (by kernel_rfl) ?_
 refine wg ?_
 refine PW.boxTake (id:=4003) rfl hLt ?_
 refine PW.freeze (id:=4003) (s:=4) (σ':=((((bot.setb 1000004 (tC 1000001 at_ now)).setb 1000001 (dB 1000002 1000003 D)).setb 1000002 (dC D)).setm 1000003 (dM D)).put 0 (.ptr 1000004 0)) rfl rfl (by rw [List.length_map,hLn,Nat.mul_one]) (low_map (fun _=>Low.val _) _) (by (repeat (first|exact SubR.bot|((with_reducible refine SubR.isp ?_);refine SubR.put ?_ (by (first|exact .inl (ren_tC rfl)|exact .inl (.ptr _ _ rfl)|exact .inl (.msl _ _ _ _ rfl)|exact .inl (.mref _ rfl)|exact .inl (.low _ (by (first|exact low_mapI|exact low_mapS|exact low_mapB|assumption|exact hlow _|exact hlow _ _|exact Low.agg _ (low_map (fun _=>Low.val _) _)|(simp [low_pu32,low_pu64,low_val,low_nilsl,low_sl,low_ep,low_agg,low_tup,low_fn,low_pint,low_pstr,low_pbool,low_pints,low_pstrs,low_pbyte,low_pbytes,hlow];done)|(simp [low_pu32,low_pu64,low_val,low_nilsl,low_sl,low_ep,low_agg,low_tup,low_fn,low_pint,low_pstr,low_pbool,low_pints,low_pstrs,low_pbyte,low_pbytes];done)|simp [low_pu32,low_pu64,low_val,low_nilsl,low_sl,low_ep,low_agg,low_tup,low_fn,low_pint,low_pstr,low_pbool,low_pints,low_pstrs,low_pbyte,low_pbytes,low_pattrs,low_pdefs,low_pschema,low_pentry])))|exact .inr (.inl (.low _ (by (first|exact low_mapI|exact low_mapS|exact low_mapB|assumption|exact hlow _|exact hlow _ _|exact Low.agg _ (low_map (fun _=>Low.val _) _)|(simp [low_pu32,low_pu64,low_val,low_nilsl,low_sl,low_ep,low_agg,low_tup,low_fn,low_pint,low_pstr,low_pbool,low_pints,low_pstrs,low_pbyte,low_pbytes,hlow];done)|(simp [low_pu32,low_pu64,low_val,low_nilsl,low_sl,low_ep,low_agg,low_tup,low_fn,low_pint,low_pstr,low_pbool,low_pints,low_pstrs,low_pbyte,low_pbytes];done)|simp [low_pu32,low_pu64,low_val,low_nilsl,low_sl,low_ep,low_agg,low_tup,low_fn,low_pint,low_pstr,low_pbool,low_pints,low_pstrs,low_pbyte,low_pbytes,low_pattrs,low_pdefs,low_pschema,low_pentry]))))|exact .inr (.inr ⟨_,_,rfl,rfl⟩))))|((with_reducible refine SubR.isb ?_);refine SubR.setb ?_ rfl rfl (by (first|exact RenQL.low (by first|assumption|exact hlow _|exact hlow _ _|exact low_map (fun _=>Low.val _) _)|exact RenQL.lowE (by assumption) (low_map (fun _=>Low.val _) _)|((repeat (refine RenQL.cons (by (first|exact .inl (ren_tC rfl)|exact .inl (.ptr _ _ rfl)|exact .inl (.msl _ _ _ _ rfl)|exact .inl (.mref _ rfl)|exact .inl (.low _ (by (first|exact low_mapI|exact low_mapS|exact low_mapB|assumption|exact hlow _|exact hlow _ _|exact Low.agg _ (low_map (fun _=>Low.val _) _)|(simp [low_pu32,low_pu64,low_val,low_nilsl,low_sl,low_ep,low_agg,low_tup,low_fn,low_pint,low_pstr,low_pbool,low_pints,low_pstrs,low_pbyte,low_pbytes,hlow];done)|(simp [low_pu32,low_pu64,low_val,low_nilsl,low_sl,low_ep,low_agg,low_tup,low_fn,low_pint,low_pstr,low_pbool,low_pints,low_pstrs,low_pbyte,low_pbytes];done)|simp [low_pu32,low_pu64,low_val,low_nilsl,low_sl,low_ep,low_agg,low_tup,low_fn,low_pint,low_pstr,low_pbool,low_pints,low_pstrs,low_pbyte,low_pbytes,low_pattrs,low_pdefs,low_pschema,low_pentry])))|exact .inr (.inl (.low _ (by (first|exact low_mapI|exact low_mapS|exact low_mapB|assumption|exact hlow _|exact hlow _ _|exact Low.agg _ (low_map (fun _=>Low.val _) _)|(simp [low_pu32,low_pu64,low_val,low_nilsl,low_sl,low_ep,low_agg,low_tup,low_fn,low_pint,low_pstr,low_pbool,low_pints,low_pstrs,low_pbyte,low_pbytes,hlow];done)|(simp [low_pu32,low_pu64,low_val,low_nilsl,low_sl,low_ep,low_agg,low_tup,low_fn,low_pint,low_pstr,low_pbool,low_pints,low_pstrs,low_pbyte,low_pbytes];done)|simp [low_pu32,low_pu64,low_val,low_nilsl,low_sl,low_ep,low_agg,low_tup,low_fn,low_pint,low_pstr,low_pbool,low_pints,low_pstrs,low_pbyte,low_pbytes,low_pattrs,low_pdefs,low_pschema,low_pentry]))))|exact .inr (.inr ⟨_,_,rfl,rfl⟩))) ?_));exact RenQL.nil))))|((with_reducible refine SubR.ism ?_);refine SubR.setm ?_ rfl rfl (by (first|exact ⟨rfl,rfl,rfl,rfl,rfl⟩|exact RenM.low (by first|assumption|exact hlowm _|exact hlowm _ _))))))) rfl ?_
 rw [←hLn]
 have hL2:L.length≤2:=by omega
 clear hL hLt hLn hn2' hsp
 by_cases h0:L = []
 ·subst h0
  rw [show D.mend at_ [] now=D from if_pos rfl]
  refine wk ?_
  exact RetH.mk rfl (Weak.refl _) ⟨⟨_,rfl,WeakL.refl _⟩,⟨_,rfl,WeakL.refl _⟩,⟨_,rfl,WeakL.refl _⟩,trivial⟩ ⟨⟨rfl,rfl⟩,trivial⟩
 ·have hpos:0 < L.length:=List.length_pos_iff.2 h0
  rw [show D.mend at_ L now=((D.clr at_ L).wrs at_ L now).sync.2 from if_neg h0]
  clear h0
  have q1:=tc_clear1 h at_ now L hLs hn hn2 (by omega)
  obtain ⟨o1,p1⟩:=h.clr hLs hn (by omega)
  generalize D.clr at_ L=D1 at *
  have hlow1:∀i,∀c∈dC (D1.wrs at_ (L.take i) now),Low c:=fun i=>dC_low _
  have hlowm:∀i,∀e∈(D1.wrs at_ (L.take i) now).op.map dE,Low e.2.1∧Low e.2.2:=fun i=>dM_low _
  have hlL:Low (pints L):=(low_pints _).2 trivial
  have hD0:D1=D1.wrs at_ (L.take 0) now:=rfl
  refine wk ?_
  refine PW.loop (fun i:Nat=>(((((((((bot.setb 1000004 (tC 1000001 at_ now)).setb 1000001 (dB 1000002 1000003 (D1.wrs at_ (L.take i) now))).setb 1000002 (dC (D1.wrs at_ (L.take i) now))).setm 1000003 (dM (D1.wrs at_ (L.take i) now))).put 0 (.ptr 1000004 0)).put 4 (pints L)).put 26 (pints L)).put 27 (pint L.length)).put 28 (pint i))) (fun i=>i≤L.length) (fun i=>L.length - i) 0 (by omega) ?_ ?_
  ·have h1:=hlow1 0
   have h2:=hlowm 0
   exact sb
  ·intro i hil
   have hti:(L.take i).length=i:=by rw [List.length_take];omega
   have o2:=OkD.wrs hn hml (L.take i) o1 (fun s hs=>hLs s (List.mem_of_mem_take hs)) (by omega)
   rw [hti] at o2
   by_cases hlt:i < L.length
   ·have hnx:L.take (i+1)=L.take i ++ [L.getD i default]:=take_getD default (by omega)
    have hz:=hLs (L.getD i default) (by rw [List.getD_eq_getElem?_getD,List.getElem?_eq_getElem hlt];exact List.getElem_mem hlt)
    have hzz:((L.getD i default).toNat:Int)=L.getD i default:=by omega
    have hw:=tc_write1 o2 at_ (L.getD i default).toNat now now (by omega) hn hn2 (by omega) hm hml
    rw [hzz] at hw
    have hD2:D1.wrs at_ (L.take (i+1)) now=(D1.wrs at_ (L.take i) now).wr at_ (L.getD i default).toNat now:=by rw [hnx,wrs_snoc]
    rw [←hD2] at hw
    have h1:=hlow1 (i+1)
    have h2:=hlowm (i+1)
    clear hlow1 hlowm hD2 o2 hnx hzz hD0 q1 o1 p1 h
    generalize hE2:D1.wrs at_ (L.take (i+1)) now=D2 at *
    generalize D1.wrs at_ (L.take i) now=D3 at *
    refine wk ?_
    refine loopP (i+1) (by show i+1≤L.length;omega) (by show L.length - (i+1) < L.length - i;omega) ?_
    try dsimp only
    rw [hE2]
    exact sb
   ·have e:i=L.length:=by omega
    subst e
    rw [List.take_length] at *
    obtain ⟨s1,s2,s3,s4⟩:=o2.sync_ok (by omega)
    have hs:=o2.steps
    have hsy:=dc_Sync (D1.wrs at_ L now) ⟨by omega,by omega,by rw [o2.after];omega⟩ (by rw [o2.after];omega) (by rw [o2.len];omega) (by rw [o2.len];exact o2.op) 1000001 1000002 1000003 (by decide)
    rw [s1] at hsy
    have h1:=dC_low (D1.wrs at_ L now).sync.2
    have h2:=dM_low (D1.wrs at_ L now).sync.2
    have h3:=dC_low (D1.wrs at_ L now)
    have h4:=dM_low (D1.wrs at_ L now)
    clear s1 s2 s3 s4 o1 o2 hlow1 hlowm hs q1 h
    generalize (D1.wrs at_ L now).sync.2=D2 at *
    generalize D1.wrs at_ L now=D3 at *
    refine wk ?_
    exact RetH.mk rfl (Weak.refl _) ⟨⟨_,rfl,WeakL.refl _⟩,⟨_,rfl,WeakL.refl _⟩,⟨_,rfl,WeakL.refl _⟩,trivial⟩ ⟨⟨rfl,rfl⟩,trivial⟩
theorem upTo_congr {c c' : Nat→Option (List Int)} : ∀(n a:Nat),(∀i,a≤i→i < a+n→c i=c' i)→upTo c a n=upTo c' a n
 |0,a,_=>rfl
 |n+1,a,h=>by
  rw [upTo,upTo,h a (Nat.le_refl _) (by omega)]
  cases c' a with
  |none=>rfl
  |some b=>simp only;rw [upTo_congr n (a+1) (fun i h1 h2=>h i (by omega) (by omega))]
theorem readT_congr {D E:DM} {at_ s:Nat} (h:∀i:Nat,at_+s * 256≤i→i < at_+s * 256+256→E.read (i:Int)=D.read (i:Int)):readT E at_ s=readT D at_ s:=by
 unfold readT
 rw [upTo_congr (c:=secD E) (c':=secD D) 256 (at_+s * 256) (fun i h1 h2=>by unfold secD;rw [h i h1 h2])]
theorem lastP_clear {at_:Nat} {q:Int} : ∀(l:List Int),lastP q (clearL at_ l)=if ∃s∈l,at_+s * 256=q then some zeroSec else none
 | []=>by simp [clearL,lastP]
 |s :: l=>by
  have ih:=lastP_clear (at_:=at_) (q:=q) l
  rw [clearL,List.map_cons,lastP]
  rw [clearL] at ih
  rw [ih]
  by_cases h:∃s∈l,(at_:Int)+s * 256=q
  ·rw [if_pos h]
   obtain ⟨x,hx,e⟩:=h
   simp only
   rw [if_pos ⟨x,List.mem_cons_of_mem _ hx,e⟩]
  ·rw [if_neg h]
   simp only
   by_cases e:(at_:Int)+s * 256=q
   ·rw [if_pos e,if_pos ⟨s,List.mem_cons_self ..,e⟩]
   ·rw [if_neg e,if_neg]
    rintro ⟨x,hx,e2⟩
    rcases List.mem_cons.1 hx with rfl|hx
    ·exact e e2
    ·exact h ⟨x,hx,e2⟩
theorem read_clr {n k:Nat} {D:DM} (h:OkD n k D) {at_:Nat} {l:List Int} (hl:∀s∈l,0≤s∧s≤3) (hn:at_+1024≤n) (hk:k+l.length≤100000000) {q:Int} (q0:0≤q) (q1:q < n):(D.clr at_ l).read q=if ∃s∈l,at_+s * 256=q then (zeroSec,0) else D.read q:=by
 have hcl:(clearL at_ l).length=l.length:=by simp [clearL]
 obtain ⟨o1,-⟩:=OkD.puts (clearL at_ l) h (clearL_in hl hn) (by omega)
 unfold DM.clr
 rw [o1.read_sync (by omega) q0 q1,OkD.read_puts _ h (clearL_in hl hn) (by omega) q0 q1,lastP_clear]
 by_cases e:∃s∈l,(at_:Int)+s * 256=q
 ·rw [if_pos e,if_pos e]
 ·rw [if_neg e,if_neg e]
theorem lastP_blks {a:Nat} {S:List Int} {q:Int} : lastP q (blksL a S)=if (a:Int)≤q∧q < a+((S.length+63) / 64:Nat) then some (secOf (blk S (q - a).toNat)) else none:=by
 unfold blksL
 generalize (S.length+63) / 64=N
 have h:∀(l:List Nat),l.Pairwise (· < ·)→lastP q (l.map fun i=>(⟨((a+i:Nat):Int),secOf (blk S i)⟩:PPut))=if (a:Int)≤q∧(q - a).toNat∈l then some (secOf (blk S (q - a).toNat)) else none:=by
  intro l
  induction l with
  |nil=>intro _;simp [lastP]
  |cons x l ih=>
   intro hp
   rw [List.pairwise_cons] at hp
   rw [List.map_cons,lastP,ih hp.2]
   by_cases h1:(a:Int)≤q∧(q - a).toNat∈l
   ·rw [if_pos h1]
    simp only
    rw [if_pos ⟨h1.1,List.mem_cons_of_mem _ h1.2⟩]
   ·rw [if_neg h1]
    simp only
    by_cases h2:((a+x:Nat):Int)=q
    ·have h3:(q - a).toNat=x:=by omega
     rw [if_pos h2,if_pos ⟨by omega,by rw [h3];exact List.mem_cons_self ..⟩,h3]
    ·rw [if_neg h2,if_neg]
     rintro ⟨h3,h4⟩
     rcases List.mem_cons.1 h4 with h4|h4
     ·exact h2 (by omega)
     ·exact h1 ⟨h3,h4⟩
 rw [h (List.range N) List.pairwise_lt_range]
 by_cases h1:(a:Int)≤q∧q < a+(N:Nat)
 ·rw [if_pos h1,if_pos ⟨h1.1,List.mem_range.2 (by omega)⟩]
 ·rw [if_neg h1,if_neg]
  rintro ⟨h2,h3⟩
  rw [List.mem_range] at h3
  exact h1 ⟨h2,by omega⟩
theorem read_wr {n k:Nat} {D:DM} (h:OkD n k D) {at_ slot:Nat} {m:PMan} (hs:slot≤3) (hn:at_+1024≤n) (hS:(slotM hfT m).length≤16384) (hk:k+256≤100000000) {q:Int} (q0:0≤q) (q1:q < n) :
  (D.wr at_ slot m).read q=if ((at_+slot * 256:Nat):Int)≤q∧q < (at_+slot * 256:Nat)+(((slotM hfT m).length+63) / 64:Nat) then (secOf (blk (slotM hfT m) (q - (at_+slot * 256:Nat)).toNat),0) else D.read q:=by
 obtain ⟨i1,i2⟩:=blksL_in (at_:=at_) hs hn hS
 unfold DM.wr
 generalize slotM hfT m=S at *
 rw [OkD.read_puts _ h i1 (by omega) q0 q1,lastP_blks]
 by_cases e:((at_+slot * 256:Nat):Int)≤q∧q < (at_+slot * 256:Nat)+((S.length+63) / 64:Nat)
 ·rw [if_pos e,if_pos e]
 ·rw [if_neg e,if_neg e]
theorem readT_wr {n k:Nat} {D:DM} (h:OkD n k D) {at_ slot:Nat} {m:PMan} (hs:slot≤3) (hn:at_+1024≤n) (hS:(slotM hfT m).length≤16384) (hk:k+256≤100000000) (hc:checkM 1 2 m=0) (hd:DigsOK m) (hby:∀c∈slotM hfT m,0≤c∧c < 256):readT (D.wr at_ slot m) at_ slot=some m:=by
 have hsec:∀i:Nat,64 * i < (slotM hfT m).length→secD (D.wr at_ slot m) (at_+slot * 256+i)=some (blk (slotM hfT m) i):=by
  intro i hi
  have hr:=read_wr h (at_:=at_) (slot:=slot) (m:=m) hs hn hS hk (q:=((at_+slot * 256+i:Nat):Int)) (by omega) (by generalize slotM hfT m=S at *; omega)
  unfold secD
  generalize D.wr at_ slot m=E at *
  generalize slotM hfT m=S at *
  rw [if_pos ⟨by omega,by omega⟩,show (((at_+slot * 256+i:Nat):Int) - ((at_+slot * 256:Nat):Int)).toNat=i by omega] at hr
  rw [hr]
  show some (secOf (blk S i)).1=_
  rw [secOf_eq (blk_byte hby i)]
 obtain ⟨W,hW⟩:∃W:Nat→List Int,W=fun i=>(secD (D.wr at_ slot m) i).getD (List.replicate 64 0):=⟨_,rfl⟩
 have hW64:∀i,(W i).length=64:=by
  intro i
  rw [hW]
  show ((secD (D.wr at_ slot m) i).getD (List.replicate 64 0)).length=64
  cases hc:secD (D.wr at_ slot m) i with
  |none=>rfl
  |some b=>exact secD_len _ _ hc
 have hcW:∀i,secD (D.wr at_ slot m) i=none∨secD (D.wr at_ slot m) i=some (W i):=by
  intro i
  rw [hW]
  show secD (D.wr at_ slot m) i=none∨secD (D.wr at_ slot m) i=some ((secD (D.wr at_ slot m) i).getD (List.replicate 64 0))
  cases hc:secD (D.wr at_ slot m) i with
  |none=>exact .inl rfl
  |some b=>exact .inr rfl
 obtain ⟨rest,hr⟩:=allOf_blk (W:=W) 256 (at_+slot * 256) (slotM hfT m) (by generalize slotM hfT m=S at *; omega) (fun i hi=>by rw [hW];simp only;rw [hsec i hi];rfl)
 unfold readT
 exact (slot_reads hfT_len hc hd hW64 (fun i _ _=>hcW i) hr).2 (fun i _ hi=>by rw [hsec i hi];simp)
theorem readT_none {D:DM} {at_ s:Nat} (h:(secD D (at_+s * 256))=none∨secD D (at_+s * 256)=some (List.replicate 64 0)):readT D at_ s=none:=by
 obtain ⟨W,hW⟩:∃W:Nat→List Int,W=fun i=>(secD D i).getD (List.replicate 64 0):=⟨_,rfl⟩
 have hW64:∀i,(W i).length=64:=by
  intro i
  rw [hW]
  show ((secD D i).getD (List.replicate 64 0)).length=64
  cases hc:secD D i with
  |none=>rfl
  |some b=>exact secD_len _ _ hc
 have hcW:∀i,secD D i=none∨secD D i=some (W i):=by
  intro i
  rw [hW]
  show secD D i=none∨secD D i=some ((secD D i).getD (List.replicate 64 0))
  cases hc:secD D i with
  |none=>exact .inl rfl
  |some b=>exact .inr rfl
 have h0:W (at_+s * 256)=List.replicate 64 0:=by
  rw [hW]
  show (secD D (at_+s * 256)).getD (List.replicate 64 0)=_
  rcases h with h|h<;>rw [h]<;>rfl
 unfold readT
 exact slot_zeros hW64 (fun i _ _=>hcW i) (fun x hx=>by rw [h0] at hx;exact (List.mem_replicate.1 hx).2)
theorem readT_clr {n k:Nat} {D:DM} (h:OkD n k D) {at_:Nat} {l:List Int} (hl:∀s∈l,0≤s∧s≤3) (hn:at_+1024≤n) (hk:k+l.length≤100000000) {s:Nat} (hs:(s:Int)∈l):readT (D.clr at_ l) at_ s=none:=by
 have h3:=hl _ hs
 have hr:=read_clr h (at_:=at_) hl hn hk (q:=((at_+s * 256:Nat):Int)) (by omega) (by omega)
 rw [if_pos ⟨(s:Int),hs,by omega⟩] at hr
 refine readT_none (.inr ?_)
 unfold secD
 rw [hr];rfl
theorem readT_clr_ne {n k:Nat} {D:DM} (h:OkD n k D) {at_:Nat} {l:List Int} (hl:∀s∈l,0≤s∧s≤3) (hn:at_+1024≤n) (hk:k+l.length≤100000000) {s:Nat} (hs3:s≤3) (hs:(s:Int)∉l):readT (D.clr at_ l) at_ s=readT D at_ s:=by
 refine readT_congr fun i h1 h2=>?_
 rw [read_clr h hl hn hk (by omega) (by omega),if_neg]
 rintro ⟨x,hx,e⟩
 have:=hl x hx
 have:x=s:=by omega
 exact hs (this ▸ hx)
theorem readT_wr_ne {n k:Nat} {D:DM} (h:OkD n k D) {at_ slot s:Nat} {m:PMan} (hs:slot≤3) (hs3:s≤3) (hne:s≠slot) (hn:at_+1024≤n) (hS:(slotM hfT m).length≤16384) (hk:k+256≤100000000):readT (D.wr at_ slot m) at_ s=readT D at_ s:=by
 refine readT_congr fun i h1 h2=>?_
 rw [read_wr h hs hn hS hk (by omega) (by omega),if_neg]
 generalize slotM hfT m=S at *
 omega
theorem readT_sync {n k:Nat} {D:DM} (h:OkD n k D) {at_ s:Nat} (hn:at_+1024≤n) (hs:s≤3):readT D.sync.2 at_ s=readT D at_ s:=
 readT_congr fun i h1 h2=>h.read_sync (by omega) (by omega) (by omega)
theorem turn_spec {n k:Nat} {D:DM} (h:OkD n k D) {at_:Nat} {m:PMan} (hn:at_+1024≤n) (hS:(slotM hfT m).length≤16384) (hk:k+1000≤100000000) (hc:checkM 1 2 m=0) (hd:DigsOK m) (hby:∀c∈slotM hfT m,0≤c∧c < 256) :
  OkD n (k+516) (D.turn at_ m)∧(D.turn at_ m).op = []∧∀s:Nat,s≤3→readT (D.turn at_ m) at_ s=if (s:Int)=firstI m.ver∨(s:Int)=firstI m.ver+1 then some m else readT D at_ s:=by
 have hf:0≤firstI m.ver∧firstI m.ver≤2:=by unfold firstI;omega
 have hff:((firstI m.ver).toNat:Int)=firstI m.ver:=by omega
 unfold DM.turn DM.turnF
 generalize (firstI m.ver).toNat=f at *
 rw [←hff] at hf ⊢
 clear hff
 have hl:∀s ∈ [(f:Int),(f:Int)+1],0≤s∧s≤3:=by
  intro s hs
  simp only [List.mem_cons,List.not_mem_nil,or_false] at hs
  omega
 have r1:=fun (s:Nat)=>readT_clr h hl hn (by simp;omega) (s:=s)
 have r2:=fun (s:Nat)=>readT_clr_ne h hl hn (by simp;omega) (s:=s)
 obtain ⟨o1,p1⟩:=h.clr (at_:=at_) hl hn (by simp;omega)
 simp only [List.length_cons,List.length_nil] at o1
 generalize D.clr at_ [(f:Int),(f:Int)+1]=D1 at *
 have w1:=readT_wr o1 (at_:=at_) (slot:=f) (by omega) hn hS (by omega) hc hd hby
 have w2:=fun (s:Nat) (h3:s≤3) (hne:s≠f)=>readT_wr_ne o1 (at_:=at_) (slot:=f) (by omega) h3 hne hn hS (by omega)
 have o2:=o1.wr (at_:=at_) (slot:=f) (by omega) hn hS (by omega)
 generalize D1.wr at_ f m=D2 at *
 have w3:=readT_wr o2 (at_:=at_) (slot:=f+1) (by omega) hn hS (by omega) hc hd hby
 have w4:=fun (s:Nat) (h3:s≤3) (hne:s≠f+1)=>readT_wr_ne o2 (at_:=at_) (slot:=f+1) (by omega) h3 hne hn hS (by omega)
 have o3:=o2.wr (at_:=at_) (slot:=f+1) (by omega) hn hS (by omega)
 generalize D2.wr at_ (f+1) m=D3 at *
 obtain ⟨s1,s2,s3,s4⟩:=o3.sync_ok (by omega)
 refine ⟨s2.mono (by omega),s4,fun s h3=>?_⟩
 rw [readT_sync o3 hn h3]
 by_cases e1:s=f+1
 ·subst e1;rw [w3,if_pos (.inr (by omega))]
 ·rw [w4 s h3 e1]
  by_cases e2:s=f
  ·subst e2;rw [w1,if_pos (.inl rfl)]
  ·rw [w2 s h3 e2,r2 s h3 (by simp only [List.mem_cons,List.not_mem_nil,or_false];omega),if_neg (by omega)]
def listN (st:Nat×Int×Int):List Int := [st.2.1,st.2.2].take st.1
theorem listN_del {n:Nat} {a b s:Int} (h:n≤2):listN (delN n a b s)=(listN (n,a,b)).filter fun k=>decide (k≠s):=by
 unfold delN listN
 obtain rfl|rfl|rfl:n=0∨n=1∨n=2:=by omega
 ·simp
 ·by_cases h1:a=s<;>simp [h1]
 ·by_cases h1:a=s<;>by_cases h2:b=s<;>simp [h1,h2]
theorem listN_spP {C:List (Nat×PMan)} {v f:Int} : ∀j,j≤C.length→listN (spP C v f j) = [f,f+1].filter fun k=>decide (∀y∈C.take j,y.2.ver=v→k≠(y.1:Int))
 |0,_=>by simp [spP,listN]
 |j+1,hj=>by
  obtain ⟨y,hy⟩:∃y,C[j]? = some y:=⟨_,List.getElem?_eq_getElem (by omega)⟩
  have ih:=listN_spP (C:=C) (v:=v) (f:=f) j (by omega)
  have hle:=spP_le C v f j
  rw [spP_succ hy]
  have ht:C.take (j+1)=C.take j ++ [y]:=by rw [List.take_add_one,hy];rfl
  rw [ht]
  have hm:∀x,x∈C.take j ++ [y]↔x∈C.take j∨x=y:=fun x=>by simp
  by_cases hv:y.2.ver=v
  ·rw [if_pos hv]
   generalize spP C v f j=st at *
   obtain ⟨n,a,b⟩:=st
   rw [listN_del hle,ih,List.filter_filter]
   refine List.filter_congr fun k _=>?_
   by_cases h1:k=(y.1:Int)
   ·rw [decide_eq_false (by simp [h1]),Bool.false_and]
    exact (decide_eq_false (fun h=>h y ((hm y).2 (.inr rfl)) hv h1)).symm
   ·rw [decide_eq_true h1,Bool.true_and]
    refine decide_eq_decide.2 ?_
    constructor
    ·intro h x hx hxv
     rcases (hm x).1 hx with hx|rfl
     ·exact h x hx hxv
     ·exact h1
    ·intro h x hx hxv
     exact h x ((hm x).2 (.inl hx)) hxv
  ·rw [if_neg hv,ih]
   refine List.filter_congr fun k _=>?_
   refine decide_eq_decide.2 ?_
   constructor
   ·intro h x hx hxv
    rcases (hm x).1 hx with hx|rfl
    ·exact h x hx hxv
    ·exact absurd hxv hv
   ·intro h x hx hxv
    exact h x ((hm x).2 (.inl hx)) hxv
set_option maxRecDepth 10000 in
theorem wrs_spec {n at_:Nat} {m:PMan} (hn:at_+1024≤n) (hS:(slotM hfT m).length≤16384) (hc:checkM 1 2 m=0) (hd:DigsOK m) (hby:∀c∈slotM hfT m,0≤c∧c < 256):∀(l:List Int) {k:Nat} {D:DM},OkD n k D→(∀s∈l,0≤s∧s≤3)→k+256 * l.length≤100000000→∀s:Nat,s≤3→readT (D.wrs at_ l m) at_ s=if (s:Int)∈l then some m else readT D at_ s
 | [],k,D,h,_,_,s,_=>by simp [DM.wrs]
 |x :: l,k,D,h,hl,hk,s,h3=>by
  simp only [List.length_cons] at hk
  have h0:=hl x (List.mem_cons_self ..)
  have hk1:k+256≤100000000:=by clear hS hby;omega
  have hk2:k+256+256 * l.length≤100000000:=by clear hS hby;omega
  have hx3:x.toNat≤3:=by clear hS hby;omega
  have ih:=wrs_spec hn hS hc hd hby l (h.wr (slot:=x.toNat) (m:=m) hx3 hn hS hk1) (fun y hy=>hl y (List.mem_cons_of_mem _ hy)) hk2 s h3
  have e:D.wrs at_ (x :: l) m=(D.wr at_ x.toNat m).wrs at_ l m:=rfl
  rw [e,ih]
  by_cases h1:(s:Int)∈l
  ·rw [if_pos h1,if_pos (List.mem_cons_of_mem _ h1)]
  ·rw [if_neg h1]
   by_cases h2:s=x.toNat
   ·have h4:(s:Int)=x:=by clear hS hby ih;omega
    rw [if_pos (by rw [h4];exact List.mem_cons_self ..),h2]
    exact readT_wr h hx3 hn hS hk1 hc hd hby
   ·rw [readT_wr_ne h hx3 h3 h2 hn hS hk1,if_neg]
    intro h4
    rcases List.mem_cons.1 h4 with h4|h4
    ·exact h2 (by clear hS hby ih;omega)
    ·exact h1 h4
set_option maxRecDepth 10000 in
theorem mend_spec {n k:Nat} {D:DM} (h:OkD n k D) (hop:D.op = []) {at_:Nat} {m:PMan} {l:List Int} (hl:∀s∈l,0≤s∧s≤3) (hll:l.length≤2) (hn:at_+1024≤n) (hS:(slotM hfT m).length≤16384) (hk:k+1000≤100000000) (hc:checkM 1 2 m=0) (hd:DigsOK m) (hby:∀c∈slotM hfT m,0≤c∧c < 256) :
  OkD n (k+516) (D.mend at_ l m)∧(D.mend at_ l m).op = []∧∀s:Nat,s≤3→readT (D.mend at_ l m) at_ s=if (s:Int)∈l then some m else readT D at_ s:=by
 unfold DM.mend
 by_cases h0:l = []
 ·subst h0
  rw [if_pos rfl]
  exact ⟨h.mono (by omega),hop,fun s _=>by simp⟩
 ·rw [if_neg h0]
  have hk1:k+l.length≤100000000:=by clear hS hby;omega
  have hk2:k+l.length+1+256 * l.length≤100000000:=by clear hS hby;omega
  obtain ⟨o1,p1⟩:=h.clr (at_:=at_) hl hn hk1
  have o2:=OkD.wrs hn hS l o1 hl hk2
  obtain ⟨s1,s2,s3,s4⟩:=o2.sync_ok (by clear hS hby;omega)
  refine ⟨s2.mono (by clear hS hby;omega),s4,fun s h3=>?_⟩
  rw [readT_sync o2 hn h3,wrs_spec hn hS hc hd hby l o1 hl hk2 s h3]
  by_cases h1:(s:Int)∈l
  ·rw [if_pos h1,if_pos h1]
  ·rw [if_neg h1,if_neg h1,readT_clr_ne h hl hn hk1 h3 h1]
end
section
open Go.RowKit
variable {t d c m' : Nat} (hd:([t,d,c,m']:List Nat).Nodup)
include hd
theorem tc_Now (D:DM) (at_:Nat) (now:PMan) (h:CloM now):HCalls Tryd.prog 8 [.ptr t 0] (tG t d c m' at_ now D) (dMs m' D) (pman now) (tG t d c m' at_ now D) (dMs m' D):=
 th_at (tc_Now1 D at_ now h) t d c m' hd (.cons renT_ptr .nil) (.low _ ((low_pman _).2 trivial))
theorem tc_Turn {n k:Nat} {D:DM} (h:OkD n k D) (at_:Nat) (now m:PMan) (hn:at_+1024≤n) (hn2:n≤1000000000) (hk:k+1000≤100000000) (hv:m.ver=now.ver+1) (hv0:0≤now.ver∧now.ver < 1000000000) (hc:checkM 2 3 m=0) (hm:EncM m) (hml:(slotM hfT m).length≤16384) (hcl:CloM m):HCalls Tryd.prog 10 [.ptr t 0,pints m.notes,prefs m.refs] (tG t d c m' at_ now D) (dMs m' D) (pint 0) (tG t d c m' at_ m (D.turn at_ m)) (dMs m' (D.turn at_ m)):=
 th_at (tc_Turn1 h at_ now m hn hn2 hk hv hv0 hc hm hml hcl) t d c m' hd (.cons renT_ptr (.cons (.low _ ((low_pints _).2 trivial)) (.cons (.low _ ((low_prefs _).2 trivial)) .nil))) (.low _ (.val _))
theorem tc_TurnE (D:DM) (at_:Nat) (now m:PMan) (hv:m.ver=now.ver+1) (hv0:0≤now.ver∧now.ver < 1000000000) (hc:checkM 2 3 m≠0) (hcl:CloM m):HCalls Tryd.prog 10 [.ptr t 0,pints m.notes,prefs m.refs] (tG t d c m' at_ now D) (dMs m' D) (pint (checkM 2 3 m)) (tG t d c m' at_ now D) (dMs m' D):=
 th_at (tc_TurnE1 D at_ now m hv hv0 hc hcl) t d c m' hd (.cons renT_ptr (.cons (.low _ ((low_pints _).2 trivial)) (.cons (.low _ ((low_prefs _).2 trivial)) .nil))) (.low _ (.val _))
theorem tc_Copies0 (D:DM) (at_:Nat) (now:PMan) (hop:D.op = []) (hdead:D.dead=false) (hv:now.ver=0):HCalls Tryd.prog 9 [.ptr t 0] (tG t d c m' at_ now D) (dMs m' D) (pint 2) (tG t d c m' at_ now D) (dMs m' D):=
 th_at (tc_Copies01 D at_ now hop hdead hv) t d c m' hd (.cons renT_ptr .nil) (.low _ (.val _))
theorem tc_Copies (D:DM) (at_:Nat) (now:PMan) (h:D.cells.length≤1000000000) (hop:D.op = []) (ha:at_≤1000000000) (hdead:D.dead=false) (hv:0 < now.ver) (hv2:now.ver≤1000000000) (n:Nat) (a b:Int) (hst:spP (copiesM (readT D at_)) now.ver (firstI now.ver) (copiesM (readT D at_)).length=(n,a,b)) :
  HCalls Tryd.prog 9 [.ptr t 0] (tG t d c m' at_ now D) (dMs m' D) (pint (2 - n)) (tG t d c m' at_ now D) (dMs m' D):=
 th_at (tc_Copies1 D at_ now h hop ha hdead hv hv2 n a b hst) t d c m' hd (.cons renT_ptr .nil) (.low _ (.val _))
theorem tc_Mend {N k:Nat} {D:DM} (h:OkD N k D) (at_:Nat) (now:PMan) (hop:D.op = []) (hn:at_+1024≤N) (hn2:N≤1000000000) (hk:k+1000≤100000000) (hv:0 < now.ver) (hv2:now.ver≤1000000000) (hm:EncM now) (hml:(slotM hfT now).length≤16384) (n:Nat) (a b:Int) (hst:spP (copiesM (readT D at_)) now.ver (firstI now.ver) (copiesM (readT D at_)).length=(n,a,b)) (L:List Int) (hL:L = [a,b].take n) (hLs:∀s∈L,0≤s∧s≤3) :
  HCalls Tryd.prog 18 [.ptr t 0] (tG t d c m' at_ now D) (dMs m' D) (.tup [pint L.length,pint 0]) (tG t d c m' at_ now (D.mend at_ L now)) (dMs m' (D.mend at_ L now)):=
 th_at (tc_Mend1 h at_ now hop hn hn2 hk hv hv2 hm hml n a b hst L hL hLs) t d c m' hd (.cons renT_ptr .nil) (.low _ (low_tup.2 (by simp [low_pint])))
end
section
open Go.RowKit
def m1S:PMan:=⟨1,[5],refs0⟩
def m2S:PMan:=⟨2,[],[refs0.getD 1 default,refs0.getD 0 default]⟩
theorem m1_ok:checkM 2 3 m1S=0∧DigsOK m1S:=⟨by decide,by unfold DigsOK;decide⟩
theorem m2_bad:checkM 2 3 m2S=3:=by decide
theorem newD_reads {n s:Nat} (h:s * 256 < n):readT (newD n) 0 s=none:=by
 refine readT_none (.inr ?_)
 have hr:=(newD_ok n).read (q:=((0+s * 256:Nat):Int)) (by omega) (by omega)
 unfold secD
 rw [hr]
 have hg:(newD n).get ((0+s * 256:Nat):Int) = []:=by rw [get_find];rfl
 have hc:(newD n).cell ((0+s * 256:Nat):Int)=⟨zeroSec,false⟩:=by
  unfold DM.cell newD
  simp only [List.getD_eq_getElem?_getD]
  rw [List.getElem?_replicate,if_pos (by omega)]
  rfl
 rw [hg,hc]
 rfl
theorem crash0_ok {n k:Nat} {D:DM} (h:OkD n k D):OkD n 0 D.crash0:=⟨rfl,rfl,h.len,⟨Int.le_refl _,by simp [DM.crash0]⟩,⟨by simp [DM.crash0],by simp [DM.crash0]⟩,by simp [DM.crash0]⟩
theorem read_crash0 {n k:Nat} {D:DM} (h:OkD n k D) (hop:D.op = []) {q:Int} (q0:0≤q) (q1:q < n):D.crash0.read q=D.read q:=by
 rw [(crash0_ok h).read q0 q1,h.read q0 q1]
 have g1:D.crash0.get q = []:=by rw [get_find];rfl
 have g2:D.get q = []:=by rw [get_find,hop];rfl
 rw [g1,g2]
 rfl
theorem readT_crash0 {n k:Nat} {D:DM} (h:OkD n k D) (hop:D.op = []) {at_ s:Nat} (hn:at_+1024≤n) (hs:s≤3):readT D.crash0 at_ s=readT D at_ s:=
 readT_congr fun i h1 h2=>read_crash0 h hop (by omega) (by omega)
theorem readT_rot_ne {n k:Nat} {D:DM} (h:OkD n k D) (hop:D.op = []) {at_ s:Nat} (hn:at_+1024≤n) (hs:s≤3) {q:Int} (q0:0≤q) (q1:q < n) (hq:q < at_+s * 256∨(at_:Int)+s * 256+256≤q):readT (D.rot q) at_ s=readT D at_ s:=
 readT_congr fun i h1 h2=>by rw [h.read_rot hop q0 q1 (by omega) (by omega),if_neg (by omega)]
theorem readT_rot {n k:Nat} {D:DM} (h:OkD n k D) (hop:D.op = []) {at_ s:Nat} (hn:at_+1024≤n) (hs:s≤3):readT (D.rot ((at_+s * 256:Nat):Int)) at_ s=none:=by
 refine readT_none (.inl ?_)
 unfold secD
 rw [h.read_rot hop (by omega) (by omega) (by omega) (by omega),if_pos rfl]
 rfl
theorem spoilt_list {rd:Nat→Option PMan} {v f:Int} {n:Nat} {a b:Int} (hst:spP (copiesM rd) v f (copiesM rd).length=(n,a,b)) : [a,b].take n = [f,f+1].filter fun k=>decide (∀y∈copiesM rd,y.2.ver=v→k≠(y.1:Int)):=by
 have h:=listN_spP (C:=copiesM rd) (v:=v) (f:=f) _ (Nat.le_refl _)
 rw [hst,List.take_length] at h
 exact h
theorem spoilt_none {rd:Nat→Option PMan} {v:Int} {f:Nat} {n:Nat} {a b:Int} (hst:spP (copiesM rd) v f (copiesM rd).length=(n,a,b)) (hf:f≤2) {x y:PMan} (h1:rd f=some x) (h2:rd (f+1)=some y) (v1:x.ver=v) (v2:y.ver=v) : [a,b].take n = []:=by
 rw [spoilt_list hst,List.filter_eq_nil_iff]
 intro k hk
 simp only [List.mem_cons,List.not_mem_nil,or_false] at hk
 simp only [decide_eq_true_eq]
 intro h
 rcases hk with rfl|rfl
 ·exact h (f,x) (mem_copies.2 ⟨by simp only;omega,h1⟩) v1 rfl
 ·exact h (f+1,y) (mem_copies.2 ⟨by simp only;omega,h2⟩) v2 (by simp)
theorem san1:∃D1,D1=(newD 1024).turn 0 m1S∧OkD 1024 516 D1∧D1.op = []∧(∀s:Nat,s≤1→readT D1 0 s=none)∧readT D1 0 2=some m1S∧readT D1 0 3=some m1S:=by
 obtain ⟨k1,k2⟩:=slotM_ok m1_ok.1 m1_ok.2
 obtain ⟨o1,p1,r1⟩:=turn_spec (newD_ok 1024) (at_:=0) (m:=m1S) (by omega) k1 (by omega) (okM m1_ok.1 m1_ok.2).2.2 m1_ok.2 k2
 refine ⟨_,rfl,o1,p1,fun s hs=>?_,?_,?_⟩
 ·rw [r1 s (by omega),if_neg (by unfold firstI m1S;simp only;omega)]
  exact newD_reads (by omega)
 ·rw [r1 2 (by omega),if_pos (by unfold firstI m1S;simp only;omega)]
 ·rw [r1 3 (by omega),if_pos (by unfold firstI m1S;simp only;omega)]
theorem san3 {D1:DM} (o1:OkD 1024 516 D1) (p1:D1.op = []) (r1:∀s:Nat,s≤1→readT D1 0 s=none) (r3:readT D1 0 3=some m1S):OkD 1024 0 (D1.crash0.rot 512)∧(D1.crash0.rot 512).op = []∧(∀s:Nat,s≤2→readT (D1.crash0.rot 512) 0 s=none)∧readT (D1.crash0.rot 512) 0 3=some m1S:=by
 have o2:=crash0_ok o1
 obtain ⟨q1,q2,-⟩:=o2.rot 512
 refine ⟨q1,q2,fun s hs=>?_,?_⟩
 ·by_cases h:s=2
  ·subst h
   exact readT_rot o2 rfl (at_:=0) (s:=2) (by omega) (by omega)
  ·rw [readT_rot_ne o2 rfl (by omega) (by omega) (by omega) (by omega) (by omega),readT_crash0 o1 p1 (by omega) (by omega)]
   exact r1 s (by omega)
 ·rw [readT_rot_ne o2 rfl (by omega) (by omega) (by omega) (by omega) (by omega),readT_crash0 o1 p1 (by omega) (by omega)]
  exact r3
theorem san_best {D:DM} (h0:∀s:Nat,s≤2→readT D 0 s=none) (h3:readT D 0 3=some m1S):bestM (readT D 0)=m1S:=
 best_is (by decide) (s:=3) (by omega) h3 (fun k m hk hm=>by
  by_cases e:k=3
  ·subst e;rw [h3] at hm;cases hm;exact .inl rfl
  ·rw [h0 k (by omega)] at hm;cases hm)
theorem san_spoilt {D:DM} (h0:∀s:Nat,s≤2→readT D 0 s=none) (h3:readT D 0 3=some m1S) {n:Nat} {a b:Int} (hst:spP (copiesM (readT D 0)) m1S.ver (firstI m1S.ver) (copiesM (readT D 0)).length=(n,a,b)):n=1 ∧ [a,b].take n = [2]:=by
 have hL : [a,b].take n = [2]:=by
  have e:copiesM (readT D 0) = [(3,m1S)]:=by
   unfold copiesM
   rw [show List.range 4 = [0,1,2,3] from rfl]
   simp [h0 0 (by omega),h0 1 (by omega),h0 2 (by omega),h3]
  rw [spoilt_list hst,e]
  decide
 have hl:=congrArg List.length hL
 have hle:=spP_le (copiesM (readT D 0)) m1S.ver (firstI m1S.ver) (copiesM (readT D 0)).length
 rw [hst] at hle
 simp only [List.length_take,List.length_cons,List.length_nil] at hl hle
 exact ⟨by omega,hL⟩
end
end Go.Proofs.YtmeekbjhpidcgaaDoor
