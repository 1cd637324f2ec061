/- Out of: Dc. -/
import Derived.Test.YtmeekbjhpidcgaaDoorG18
namespace Go.Proofs.YtmeekbjhpidcgaaDoor
set_option linter.unusedSimpArgs false
set_option linter.unusedVariables false
set_option linter.unnecessarySimpa false
section
open Go.RowKit
def psec (s:Sec):PV:=.agg (secL s)
theorem psec_low (s:Sec):Low (psec s):=.agg _ (secL_low s)
def opIdx (i:Int):List (Nat×Int×List Sec)→Nat→Option Nat
 | [],_=>none
 |(_,k,_) :: l,n=>if i=k then some n else opIdx i l (n+1)
theorem opIdx_find (i:Int):∀(l:List (Nat×Int×List Sec)) (n:Nat),mfind .int (.int .i64 i) (l.map dE) n=some (opIdx i l n)
 | [],n=>rfl
 |(s,k,v) :: l,n=>by
  simp only [List.map_cons,dE,pint,mfind,veq,if_true,opIdx]
  by_cases h:i=k
  ·subst h;simp
  ·have:(i == k)=false:=by simpa using h
   rw [this,if_neg h]
   exact opIdx_find i l (n+1)
theorem opIdx_lt {i:Int} : ∀{l:List (Nat×Int×List Sec)} {n j:Nat},opIdx i l n=some j→n≤j∧j < n+l.length∧∃s v,l[j - n]? = some (s,i,v)
 | [],n,j,h=>by simp [opIdx] at h
 |(s,k,v) :: l,n,j,h=>by
  simp only [opIdx] at h
  split at h
  ·rename_i e;subst e;cases h;exact ⟨Nat.le_refl _,by simp,s,v,by simp⟩
  ·obtain ⟨h1,h2,s',v',h3⟩:=opIdx_lt h
   refine ⟨by omega,by simp;omega,s',v',?_⟩
   rw [show j - n=(j - (n+1))+1 by omega];simpa using h3
instance:Inhabited (Nat×Int×List Sec):=⟨(0,0,[])⟩
def DM.get (D:DM) (i:Int):List Sec:=match opIdx i D.op 0 with
 |some j=>(D.op.getD j default).2.2
 |none => []
def lastS (l:List Sec):Sec:=l.getD ((l.length:Int) - 1).toNat default
def DM.cell (D:DM) (i:Int):DCell:=D.cells.getD i.toNat default
def DM.read (D:DM) (i:Int):Sec×Int:=if D.check i=0 then (if 0 < (D.get i).length then (lastS (D.get i),0) else if (D.cell i).bad then (zeroSec,221) else ((D.cell i).s,0)) else (zeroSec,D.check i)
theorem dget (D:DM) (i:Int) {ki ei:TyI} (hk:ki.kind = .int .i64) (he:zeroPV ei=some .nilsl):∃b,mget ki ei (D.op.map dE) (.int .i64 i)=some (if opIdx i D.op 0=none then .nilsl else psecs (D.get i) none,b):=by
 unfold mget
 simp only [hk,keyOK,skT,decide_true,if_true,opIdx_find]
 cases h:opIdx i D.op 0 with
 |none=>exact ⟨false,by simp [he,PV.bare]⟩
 |some j=>
  obtain ⟨-,h2,s,v,h3⟩:=opIdx_lt h
  simp only [Nat.sub_zero] at h3
  refine ⟨true,?_⟩
  simp only [List.getElem?_map,h3,Option.map_some,dE,reduceCtorEq,if_false,DM.get,h,List.getD_eq_getElem?_getD,Option.getD_some]
  rfl
theorem check0 {D:DM} {i:Int} (h:D.check i=0):D.dead=false∧0≤i∧i < D.cells.length:=by
 unfold DM.check at h
 split at h
 ·cases h
 ·split at h
  ·cases h
  ·rename_i h1 h2
   exact ⟨by simpa using h1,by omega,by omega⟩
theorem dcellL_64 (c:DCell):(dcellL c)[64]? = some (pbool c.bad):=by
 rw [dcellL,List.getElem?_append_right (by rw [secL_len];exact Nat.le_refl _),secL_len];rfl
theorem dC_flat (D:DM):dC D=D.cells.flatMap dcellL:=rfl
end
section
open Go.RowKit
variable {P:Program} {T:Tab} {σ:PS} {o:Oper} {i base:Nat} {ops:Array Oper} {ok:Nat→Nat→Bool} {rest:List (Nat×Oper)} {K:PS→Prop}
theorem PWops.ldSec {d id:Nat} {z:Nat} {l:List DCell} {x:Operand} {t:TypeId} {kd:TD} {zr:List PV} {es:List SK} (hg:pguard ops σ o=some true) (hd:o.dst=some d) (hop:o.op = .load t x) {off:Nat} (hx:pev σ x = .ptr id off) (ht:T.at t=some ⟨64,true,kd,zr,es⟩) (hb:σ.freeB (base+i)=true) {bs:List PV} (hbs:(σ.only (ok i)).b id=some bs) (hf:bs=l.flatMap dcellL) (ho:off=0+z * 65+0) (hl:z < l.length)
  (kn:PWops P T ops base ok rest K (σ.put d (psec (l.getD z default).s))):PWops P T ops base ok ((i,o) :: rest) K σ:=by
 subst ho
 subst hf
 refine PWops.ldBA hg hd hop hx ht hb hbs ?_ ?_ kn
 ·rw [flatMap_len dcellL_len]
  have:=Nat.mul_le_mul_right 65 (show z+1≤l.length from hl)
  omega
 ·have h1:=flatMap_row dcellL_len (getD_get default hl)
  have h2:((l.flatMap dcellL).drop (0+z * 65+0)).take 64=(((l.flatMap dcellL).drop (z * 65)).take 65).take 64:=by
   rw [List.take_take,show 0+z * 65+0=z * 65 by omega];rfl
  rw [h2,h1,dcellL,List.take_append_of_le_length (by rw [secL_len];exact Nat.le_refl _),List.take_of_length_le (by rw [secL_len];exact Nat.le_refl _),secL_bare]
end
section
open Go.RowKit
set_option maxRecDepth 10000 in
set_option maxHeartbeats 1000000 in
theorem dc_Read (D:DM) (i:Int) (hsz:D.cells.length≤1000000000) (hop:∀e∈D.op,e.2.2.length≤1000000000):DCalls 52 [pint i] D (.tup [psec (D.read i).1,pint (D.read i).2]) D:=by
 refine dcalls_of_pw Tryd.func52 rfl rfl (by exact lw) (by simp [pint,PV.ownB]) (Nat.le_of_ble_eq_true rfl) (.tup _ (by intro c hc;simp at hc;rcases hc with rfl|rfl;exact psec_low _;exact .val _)) ?_
 have hck:=dc_check D i 1000001 1000002 1000003 (by decide)
 have hgl:(D.get i).length≤1000000000:=by
  unfold DM.get
  cases h:opIdx i D.op 0 with
  |none=>simp
  |some j=>
   obtain ⟨-,h2,s,v,h3⟩:=opIdx_lt h
   simp only [Nat.sub_zero] at h3
   simp only [List.getD_eq_getElem?_getD,h3,Option.getD_some]
   exact hop _ (List.mem_of_getElem? h3)
 by_cases h1:D.check i=0
 ·obtain ⟨hd,hi0,hi1⟩:=check0 h1
  obtain ⟨b,hb⟩:=dget D i (ki:=⟨1,false, .int .i64,[.val (.int .i64 0)],[]⟩) (ei:=⟨1,false, .slice 71 64 64 (List.replicate 64 (.val (.int .u8 0))),[.nilsl],[]⟩) rfl rfl
  cases hx:opIdx i D.op 0 with
  |none=>
   have hg0:D.get i = []:=by simp [DM.get,hx]
   rw [hx] at hb
   simp only [if_true] at hb
   cases hbad:(D.cells.getD i.toNat default).bad with
   |true=>
    have hr:D.read i=(zeroSec,221):=by unfold DM.read DM.cell;rw [if_pos h1,hg0,hbad];rfl
    rw [hr]
    refine wk ?_
    exact RetH.mk (presult2 (pres_cell rfl rfl rfl (by (first|rfl|exact secL_len _|exact dcellL_len _|exact putL_len _|exact len_map (by assumption)|exact len_map rfl)) (by (first|rfl|exact secL_bare _|exact dcellL_bare _|exact putL_bare _|exact bare_map (fun _=>rfl) _))) rfl) (Weak.eq rfl) ⟨⟨_,rfl,WeakL.refl _⟩,⟨_,rfl,WeakL.refl _⟩,trivial⟩ ⟨⟨rfl,rfl⟩,trivial⟩
   |false=>
    have hr:D.read i=((D.cells.getD i.toNat default).s,0):=by unfold DM.read DM.cell;rw [if_pos h1,hg0,hbad];rfl
    rw [hr]
    refine wk ?_
    exact RetH.mk (presult2 (pres_cell rfl rfl rfl (by (first|rfl|exact secL_len _|exact dcellL_len _|exact putL_len _|exact len_map (by assumption)|exact len_map rfl)) (by (first|rfl|exact secL_bare _|exact dcellL_bare _|exact putL_bare _|exact bare_map (fun _=>rfl) _))) rfl) (Weak.eq rfl) ⟨⟨_,rfl,WeakL.refl _⟩,⟨_,rfl,WeakL.refl _⟩,trivial⟩ ⟨⟨rfl,rfl⟩,trivial⟩
  |some j=>
   rw [hx] at hb
   simp only [reduceCtorEq,if_false] at hb
   by_cases hl:0 < (D.get i).length
   ·have hr:D.read i=(lastS (D.get i),0):=by simp [DM.read,h1,hl]
    rw [hr]
    refine wk ?_
    exact RetH.mk (presult2 (pres_cell rfl rfl rfl (by (first|rfl|exact secL_len _|exact dcellL_len _|exact putL_len _|exact len_map (by assumption)|exact len_map rfl)) (by (first|rfl|exact secL_bare _|exact dcellL_bare _|exact putL_bare _|exact bare_map (fun _=>rfl) _))) rfl) (Weak.eq rfl) ⟨⟨_,rfl,WeakL.refl _⟩,⟨_,rfl,WeakL.refl _⟩,trivial⟩ ⟨⟨rfl,rfl⟩,trivial⟩
   ·have hl0:(D.get i).length=0:=by omega
    cases hbad:(D.cells.getD i.toNat default).bad with
    |true=>
     have hr:D.read i=(zeroSec,221):=by unfold DM.read DM.cell;rw [if_pos h1,if_neg hl,hbad];rfl
     rw [hr]
     refine wk ?_
     exact RetH.mk (presult2 (pres_cell rfl rfl rfl (by (first|rfl|exact secL_len _|exact dcellL_len _|exact putL_len _|exact len_map (by assumption)|exact len_map rfl)) (by (first|rfl|exact secL_bare _|exact dcellL_bare _|exact putL_bare _|exact bare_map (fun _=>rfl) _))) rfl) (Weak.eq rfl) ⟨⟨_,rfl,WeakL.refl _⟩,⟨_,rfl,WeakL.refl _⟩,trivial⟩ ⟨⟨rfl,rfl⟩,trivial⟩
    |false=>
     have hr:D.read i=((D.cells.getD i.toNat default).s,0):=by unfold DM.read DM.cell;rw [if_pos h1,if_neg hl,hbad];rfl
     rw [hr]
     refine wk ?_
     exact RetH.mk (presult2 (pres_cell rfl rfl rfl (by (first|rfl|exact secL_len _|exact dcellL_len _|exact putL_len _|exact len_map (by assumption)|exact len_map rfl)) (by (first|rfl|exact secL_bare _|exact dcellL_bare _|exact putL_bare _|exact bare_map (fun _=>rfl) _))) rfl) (Weak.eq rfl) ⟨⟨_,rfl,WeakL.refl _⟩,⟨_,rfl,WeakL.refl _⟩,trivial⟩ ⟨⟨rfl,rfl⟩,trivial⟩
 ·have hr:D.read i=(zeroSec,D.check i):=by simp [DM.read,h1]
  rw [hr]
  refine wk ?_
  exact RetH.mk (presult2 (pres_cell rfl rfl rfl (by (first|rfl|exact secL_len _|exact dcellL_len _|exact putL_len _|exact len_map (by assumption)|exact len_map rfl)) (by (first|rfl|exact secL_bare _|exact dcellL_bare _|exact putL_bare _|exact bare_map (fun _=>rfl) _))) rfl) (Weak.eq rfl) ⟨⟨_,rfl,WeakL.refl _⟩,⟨_,rfl,WeakL.refl _⟩,trivial⟩ ⟨⟨rfl,rfl⟩,trivial⟩
end
end Go.Proofs.YtmeekbjhpidcgaaDoor
