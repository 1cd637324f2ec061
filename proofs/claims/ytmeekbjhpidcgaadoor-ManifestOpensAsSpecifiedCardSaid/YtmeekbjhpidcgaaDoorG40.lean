/- Out of: Tp, Tr, Ue2, Ug2. -/
import Derived.Test.YtmeekbjhpidcgaaDoorG38
namespace Go.Proofs.YtmeekbjhpidcgaaDoor
set_option linter.unusedSimpArgs false
set_option linter.unusedVariables false
set_option linter.unnecessarySimpa false
section
open Go.RowKit
def firstI (v:Int):Int:=2 * (v % 2)
theorem pw_first (v:Int) (h0:0≤v) (h1:v≤1000000000):PCalls Tryd.prog 27 [pint v] (· = pint (firstI v)):=by
 refine pcalls_of_pw typeTab_ok Tryd.func27 rfl (by kernel_rfl) (by simp [low_pint]) (by simp [pint,PV.ownB]) (by rw [Tryd.ntmps27];simp) ?_
 rw [Tryd.ntmps27,Tryd.results27]
 unfold firstI
 refine wk ?_
 exact retP rfl (.val _) rfl
def clearL (at_:Nat) (l:List Int):List PPut:=l.map fun s=>⟨at_+s * 256,zeroSec⟩
def DM.clr (D:DM) (at_:Nat) (l:List Int):DM:=(D.puts (clearL at_ l)).sync.2
set_option maxRecDepth 10000 in
set_option maxHeartbeats 2000000 in
theorem tc_clear1 {n k:Nat} {D:DM} (h:OkD n k D) (at_:Nat) (now:PMan) (l:List Int) (hl:∀s∈l,0≤s∧s≤3) (hn:at_+1024≤n) (hn2:n≤1000000000) (hk:k+l.length≤100000000):HCalls Tryd.prog 28 [.ptr 1000004 0,pints l] (tG 1000004 1000001 1000002 1000003 at_ now D) (dMs 1000003 D) (pint 0) (tG 1000004 1000001 1000002 1000003 at_ now (D.clr at_ l)) (dMs 1000003 (D.clr at_ l)):=by
 have hlr:Low (prefs now.refs):=(low_prefs _).2 trivial
 have hlt:Low (pints now.notes):=(low_pints _).2 trivial
 have hls:Low (pints l):=(low_pints _).2 trivial
 have hlow:∀i,∀c∈dC (D.puts ((clearL at_ l).take i)),Low c:=fun i=>dC_low _
 have hlowm:∀i,∀e∈(D.puts ((clearL at_ l).take i)).op.map dE,Low e.2.1∧Low e.2.2:=fun i=>dM_low _
 refine th_of_pw Tryd.func28 rfl rfl (by intro p hp;rcases List.mem_cons.1 hp with rfl|hp;exact .ptr _ _ (by simp);rcases List.mem_cons.1 hp with rfl|hp;exact hls.lowI;cases hp) (by simp [pints,PV.ownB]) (Nat.le_of_ble_eq_true rfl) (Low.val _).lowI ?_
 have hcl:(clearL at_ l).length=l.length:=by simp [clearL]
 have hi:InD n (clearL at_ l):=by
  intro p hp
  obtain ⟨s,hs,rfl⟩:=List.mem_map.1 hp
  have:=hl s hs
  simp only;omega
 have hD0:D=D.puts ((clearL at_ l).take 0):=rfl
 refine wk ?_
 refine PW.loop (fun i:Nat=>((((((((bot.setb 1000004 (tC 1000001 at_ now)).setb 1000001 (dB 1000002 1000003 (D.puts ((clearL at_ l).take i)))).setb 1000002 (dC (D.puts ((clearL at_ l).take i)))).setm 1000003 (dM (D.puts ((clearL at_ l).take i)))).put 0 (.ptr 1000004 0)).put 8 (pints l)).put 9 (pint l.length)).put 10 (pint i))) (fun i=>i≤l.length) (fun i=>l.length - i) 0 (by omega) ?_ ?_
 ·have h1:=hlow 0
  have h2:=hlowm 0
  exact sb
 ·intro i hil
  have hti:((clearL at_ l).take i).length=i:=by rw [List.length_take];omega
  obtain ⟨o1,o2⟩:=OkD.puts ((clearL at_ l).take i) h (fun p hp=>hi p (List.mem_of_mem_take hp)) (by omega)
  rw [hti] at o1
  by_cases hlt:i < l.length
  ·have hnx:(clearL at_ l).take (i+1)=(clearL at_ l).take i ++ [(clearL at_ l).getD i default]:=take_getD default (by omega)
   have hpp:(clearL at_ l).getD i default=⟨(at_:Int)+l.getD i default * 256,zeroSec⟩:=by
    simp [clearL,List.getD_eq_getElem?_getD,List.getElem?_map,List.getElem?_eq_getElem hlt]
   have hls3:=hl (l.getD i default) (by rw [List.getD_eq_getElem?_getD,List.getElem?_eq_getElem hlt];exact List.getElem_mem hlt)
   have hs:=o1.steps
   obtain ⟨w1,w2,w3⟩:=o1.write (i:=((at_:Int)+l.getD i default * 256)) (by omega) (by omega) (by omega) zeroSec
   have hw:=dc_Write (D.puts ((clearL at_ l).take i)) ((at_:Int)+l.getD i default * 256) zeroSec ⟨by omega,by omega,by rw [o1.after];omega⟩ (by rw [o1.after];omega) (fun e he=>by have:=o1.room e he;omega) 1000001 1000002 1000003 (by decide)
   rw [w1] at hw
   have hD2:D.puts ((clearL at_ l).take (i+1))=((D.puts ((clearL at_ l).take i)).write ((at_:Int)+l.getD i default * 256) zeroSec).2:=by rw [hnx,puts_snoc,hpp]
   rw [←hD2] at hw
   have h1:=hlow (i+1)
   have h2:=hlowm (i+1)
   clear hlow hlowm hD2 w2 w3 o2 hnx hpp hD0
   generalize hE2:D.puts ((clearL at_ l).take (i+1))=D2 at *
   generalize D.puts ((clearL at_ l).take i)=D1 at *
   refine wk ?_
   refine loopP (i+1) (by show i+1≤l.length;omega) (by show l.length - (i+1) < l.length - i;omega) ?_
   dsimp only
   rw [hE2]
   exact sb
  ·have e:i=l.length:=by omega
   subst e
   rw [show (clearL at_ l).take l.length=clearL at_ l by rw [←hcl,List.take_length]] at *
   obtain ⟨s1,s2,s3,s4⟩:=o1.sync_ok (by omega)
   have hs:=o1.steps
   have hsy:=dc_Sync (D.puts (clearL at_ l)) ⟨by omega,by omega,by rw [o1.after];omega⟩ (by rw [o1.after];omega) (by rw [o1.len];omega) (by rw [o1.len];exact o1.op) 1000001 1000002 1000003 (by decide)
   rw [s1] at hsy
   unfold DM.clr
   have h1:=dC_low (D.puts (clearL at_ l)).sync.2
   have h2:=dM_low (D.puts (clearL at_ l)).sync.2
   have h3:=dC_low (D.puts (clearL at_ l))
   have h4:=dM_low (D.puts (clearL at_ l))
   clear s1 s2 s3 s4 o1 o2 hlow hlowm
   generalize (D.puts (clearL at_ l)).sync.2=D2 at *
   generalize D.puts (clearL at_ l)=D1 at *
   refine wk ?_
   exact RetH.mk rfl (Weak.refl _) ⟨⟨_,rfl,WeakL.refl _⟩,⟨_,rfl,WeakL.refl _⟩,⟨_,rfl,WeakL.refl _⟩,trivial⟩ ⟨⟨rfl,rfl⟩,trivial⟩
set_option maxRecDepth 100000 in
set_option maxHeartbeats 2000000 in
theorem cloneR0 (a:Option Addr) (cap:Nat) (w:World):Calls Tryd.prog 41 #[.slice a 0 cap] w (fun e w' => ∃a' cap',e = .returned (.slice a' 0 cap')∧cap'≤maxLen∧Below w.heap.size w w'):=by
 cases a with
 |none=>
  have he:=fun (w:World)=>Lib.run_eql_slice_nil (P:=Tryd.prog) w 23 44 none 0 cap 0 0 (by kernel_rfl)
  go_enter Tryd.func41,Tryd.ntmps41
  simp only [Option.isNone_none] at he
  go_wp2
  go_ret
  exact ⟨_,_,rfl,by unfold maxLen;omega,Below.refl _ _⟩
 |some ad=>
  have he:=fun (w:World)=>Lib.run_eql_slice_nil (P:=Tryd.prog) w 23 44 (some ad) 0 cap 0 0 (by kernel_rfl)
  go_enter Tryd.func41,Tryd.ntmps41
  simp only [Option.isNone_some] at he
  go_wp2
  go_ret
  exact ⟨_,_,rfl,by unfold maxLen;omega,(Below.refl _ _).alloc (Nat.le_refl _) _⟩
theorem pcCloneR0:PCalls Tryd.prog 41 [prefs []] (· = prefs []):=
 pcalls1 (by kernel_rfl) fun Φ μ w v himm hr=>by
  obtain ⟨a,b,off,cap,us,rfl,-⟩:=hr.sl_inv
  refine (cloneR0 a cap w).mono ?_
  rintro e w' ⟨a',cap',rfl,hc,hb⟩
  exact ⟨_,_,Φ,rfl,rfl, .sl0 _ _ _ _ hc,fun b o u e=>below_cell hb (himm b o u e),fun _ _ _=>rfl,hb,fun n k cs E' e=>by cases e⟩
theorem pcalls_bare {P:Program} {f:FuncId} {args:List PV} {n k:Nat} {cs:List PV} {o:Option TypeId} (h:PCalls P f args (· = .sl n k cs o)):PCalls P f args (· = .sl n k cs none):=by
 refine ⟨h.1,fun Φ μ w vs h1 hgl h2=>(h.2 Φ μ w vs h1 hgl h2).mono ?_⟩
 rintro e w' ⟨r,v,Φ',k1,rfl,k3,k4,k5,k6,-⟩
 exact ⟨_,v,Φ',k1,rfl,k3.bare,k4,k5,k6,fun n k cs E e=>by cases e⟩
set_option maxRecDepth 10000 in
theorem pcCloneR (l:List PRef) (hl:l.length≤1000000):PCalls Tryd.prog 41 [prefs l] (· = prefs l):=by
 cases l with
 |nil=>exact pcCloneR0
 |cons x l=>
  have hlr:Low (prefs (x :: l)):=(low_prefs _).2 trivial
  simp only [List.length_cons] at hl
  have hone:((x :: l).flatMap prefL).all PV.one=true:=by
   rw [List.all_eq_true];intro c hc
   obtain ⟨y,-,hc⟩:=List.mem_flatMap.1 hc
   exact List.all_eq_true.1 (rfl:(prefL y).all PV.one=true) c hc
  refine pcalls_bare (o:=some 44) ?_
  refine pcalls_of_pw typeTab_ok Tryd.func41 rfl (by kernel_rfl) (by simp [hlr]) (by simp [prefs,PV.ownB]) (Nat.le_of_ble_eq_true rfl) ?_
  refine PW.seq ?_
  refine PW.region typeTab_ok (by kernel_rfl) ?_
  refine wg ?_
  refine PW.region typeTab_ok (by kernel_rfl) ?_
  refine wg ?_
  refine PW.region typeTab_ok (by kernel_rfl) ?_
  (refine ops0 ?_)
  (refine ops0 ?_)
  refine PWops.app rfl rfl rfl rfl rfl rfl rfl rfl (by simp only [List.length_cons];omega) (by simp only [List.length_cons];omega) hone ?_
  refine wk ?_
  rw [Nat.zero_add,List.nil_append]
  exact retP rfl (low_sl.2 (low_sl.1 hlr)) rfl
def CloM (m:PMan):Prop:=m.notes.length≤1000000∧m.refs.length≤1000000
set_option maxRecDepth 10000 in
theorem pw_clone (m:PMan) (h:CloM m):PCalls Tryd.prog 24 [pman m] (· = pman m):=by
 have hlm:=low_pmanL m
 have c1:=pcClone m.notes (by have:=h.1;omega)
 have c2:=pcCloneR m.refs (by have:=h.2;omega)
 refine pcalls_of_pw typeTab_ok Tryd.func24 rfl (by kernel_rfl) (by simp [(low_pman m).2 trivial]) (by simp [pman,PV.ownB]) (Nat.le_of_ble_eq_true rfl) ?_
 refine wk ?_
 exact retP rfl ((low_pman m).2 trivial) rfl
set_option maxRecDepth 10000 in
theorem tc_Now1 (D:DM) (at_:Nat) (now:PMan) (h:CloM now):HCalls Tryd.prog 8 [.ptr 1000004 0] (tG 1000004 1000001 1000002 1000003 at_ now D) (dMs 1000003 D) (pman now) (tG 1000004 1000001 1000002 1000003 at_ now D) (dMs 1000003 D):=by
 have hlr:Low (prefs now.refs):=(low_prefs _).2 trivial
 have hlt:Low (pints now.notes):=(low_pints _).2 trivial
 have hc:=pw_clone now h
 refine th_of_pw Tryd.func8 rfl rfl (by intro p hp;rcases List.mem_cons.1 hp with rfl|hp;exact .ptr _ _ (by simp);cases hp) (by simp [PV.ownB]) (Nat.le_of_ble_eq_true rfl) ((low_pman _).2 trivial).lowI ?_
 refine wk ?_
 exact RetH.mk rfl (Weak.refl _) ⟨⟨_,rfl,WeakL.refl _⟩,⟨_,rfl,WeakL.refl _⟩,⟨_,rfl,WeakL.refl _⟩,trivial⟩ ⟨⟨rfl,rfl⟩,trivial⟩
def few32C (m:PMan):Bool:=decide (m.notes.length≤20) && (decide (m.refs.length≤40) || (decide (600 < m.refs.length) && decide (m.refs.length≤610)))
set_option maxRecDepth 10000 in
theorem pw_few32 (m:PMan) (h1:m.notes.length≤1000000000000000) (h2:m.refs.length≤1000000000000000):PCalls Tryd.prog 4 [pman m] (· = pbool (few32C m)):=by
 have hlm:=low_pmanL m
 refine pcalls_of_pw typeTab_ok Tryd.func4 rfl (by kernel_rfl) (by simp [(low_pman m).2 trivial]) (by simp [pman,PV.ownB]) (Nat.le_of_ble_eq_true rfl) ?_
 unfold few32C
 by_cases g1:m.notes.length≤20
 ·rw [decide_eq_true g1]
  by_cases g2:m.refs.length≤40
  ·rw [decide_eq_true g2]
   refine wk ?_
   exact retP (r:=pbool true) rfl (.val _) rfl
  ·rw [decide_eq_false g2]
   by_cases g3:600 < m.refs.length
   ·rw [decide_eq_true g3]
    by_cases g4:m.refs.length≤610
    ·rw [decide_eq_true g4]
     refine wk ?_
     exact retP (r:=pbool true) rfl (.val _) rfl
    ·rw [decide_eq_false g4]
     refine wk ?_
     exact retP (r:=pbool false) rfl (.val _) rfl
   ·rw [decide_eq_false g3]
    refine wk ?_
    exact retP (r:=pbool false) rfl (.val _) rfl
 ·rw [decide_eq_false g1]
  refine wk ?_
  exact retP (r:=pbool false) rfl (.val _) rfl
def dig0 (x:Int):List Int := [x,0,0,0,0,0,0,0,0,0,0,0,0,0,0,0]
def refs0:List PRef := [⟨1,7,dig0 1⟩,⟨1,9,dig0 2⟩]
set_option maxRecDepth 10000 in
theorem pw_refs:PCalls Tryd.prog 13 [] (· = prefs refs0):=by
 refine pcalls_bare (o:=some 44) ?_
 refine pcalls_of_pw typeTab_ok Tryd.func13 rfl (by kernel_rfl) (by simp) (by simp) (Nat.le_of_ble_eq_true rfl) ?_
 refine wk ?_
 exact retP rfl (low_sl.2 (low_sl.1 ((low_prefs refs0).2 trivial))) rfl
theorem checkM_iff {m:PMan} {e1 e2:Int} (h1:e1≠0) (h2:e2≠0):checkM e1 e2 m=0↔(m.notes.length≤16∧m.refs.length≤600)∧rightM m=true:=by
 unfold checkM
 by_cases g:16 < m.notes.length∨600 < m.refs.length
 ·rw [if_pos g]
  constructor
  ·intro h;exact absurd h h1
  ·rintro ⟨⟨a,b⟩,-⟩;omega
 ·rw [if_neg g]
  cases hr:rightM m with
  |true=>simp;omega
  |false=>simp [h2]
theorem rises_ok:∀{l:List PRef},risesM l=true→∀r∈l,refOK r=true
 | [],_=>by simp
 | [x],h=>by
  intro r hr
  rw [List.mem_singleton] at hr
  subst hr;exact h
 |x :: y :: l,h=>by
  rw [risesM] at h
  simp only [Bool.and_eq_true] at h
  intro r hr
  rcases List.mem_cons.1 hr with rfl|hr
  ·exact h.1
  ·exact rises_ok h.2.2 r hr
theorem okM {m:PMan} (hc:checkM 2 3 m=0) (hd:DigsOK m):EncM m∧CloM m∧checkM 1 2 m=0:=by
 obtain ⟨⟨l1,l2⟩,hr⟩:=(checkM_iff (by decide) (by decide)).1 hc
 have hc2:checkM 1 2 m=0:=(checkM_iff (by decide) (by decide)).2 ⟨⟨l1,l2⟩,hr⟩
 unfold rightM at hr
 simp only [Bool.and_eq_true,decide_eq_true_eq] at hr
 obtain ⟨r1,r2,r3,r4,r5⟩:=hr
 refine ⟨⟨?_,?_,hd,by omega,by omega⟩,⟨by omega,by omega⟩,hc2⟩
 ·intro z hz
  rcases List.mem_cons.1 hz with rfl|hz
  ·omega
  ·have:=List.all_eq_true.1 r3 z hz
   unfold noteOK at this
   simp only [Bool.and_eq_true,decide_eq_true_eq] at this
   omega
 ·intro z hz
  obtain ⟨r,hr,hz⟩:=List.mem_flatMap.1 hz
  have:=rises_ok r5 r hr
  unfold refOK at this
  simp only [Bool.and_eq_true,decide_eq_true_eq] at this
  simp only [List.mem_cons,List.not_mem_nil,or_false] at hz
  rcases hz with rfl|rfl<;>omega
theorem slotM_ok {m:PMan} (hc:checkM 2 3 m=0) (hd:DigsOK m):(slotM hfT m).length≤16384∧∀c∈slotM hfT m,0≤c∧c < 256:=by
 obtain ⟨⟨l1,l2⟩,hr⟩:=(checkM_iff (by decide) (by decide)).1 hc
 have hl:=(encM_len (okM hc hd).2.2 hd).2
 have hs:(strOf (encM m)).size=(encM m).length:=strOf_size _
 have hb:=strB_byte (strOf (encM m)) (by omega)
 have hil:=(intB_len ((strOf (encM m)).size) (by omega) (by omega)).2
 have hsl:(strB (strOf (encM m))).length=(intB ((strOf (encM m)).size)).length+(strOf (encM m)).size:=by rw [strB,List.length_append,bytesL_len]
 have h16:=hfT_len (strOf (encM m))
 have hb16:=hfT_byte (strOf (encM m))
 unfold slotM
 generalize hfT (strOf (encM m))=H at *
 refine ⟨by rw [List.length_append];omega,fun c hc=>?_⟩
 rcases List.mem_append.1 hc with hc|hc
 ·exact hb16 c hc
 ·exact hb c hc
end
end Go.Proofs.YtmeekbjhpidcgaaDoor
