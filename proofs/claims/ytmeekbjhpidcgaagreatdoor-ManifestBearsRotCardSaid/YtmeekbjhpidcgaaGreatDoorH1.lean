/- Out of: Opens, PwY, Row32, De, Ui2, Rk, PwWb. -/
import Derived.Test.YtmeekbjhpidcgaaGreatDoorG28
import Derived.Test.YtmeekbjhpidcgaaGreatDoorG37
namespace Go.Proofs.YtmeekbjhpidcgaaGreatDoor
set_option linter.unusedSimpArgs false
set_option linter.unusedVariables false
set_option linter.unnecessarySimpa false
section
open Go.ChangeShapes Go.WideShapes Go.ChangeAt Go.RowKit
variable {P:Program} {t e:TypeId}
theorem opens_bool (ht:P.underlying t=some .bool):Opens P t (fun b:Bool => [.val (.bool b)]) (fun _=>True):=by
 intro H enc W fuel cs d pl h hw
 obtain ⟨n,rfl,hx⟩:=DataW.trod_bool ht h
 exact ⟨n,trivial,RepL.cons (.val _ rfl) RepL.nil⟩
end
section
open Go.RowKit
variable {P:Program} {T:Tab} {σ:PS} {o:Oper} {i base:Nat} {ops:Array Oper} {ok:Nat→Nat→Bool} {rest:List (Nat×Oper)} {K:PS→Prop}
theorem splice_cell {α:Type} {f:α→List PV} {k:Nat} (hk:∀x,(f x).length=k) {l:List α} {j r:Nat} {x:α} {v:PV} (h:j < l.length) (hr:r < k) (hx:∀y,l[j]? = some y→f x=(f y).set r v):splice (l.flatMap f) (j * k+r) [v]=(l.set j x).flatMap f:=by
 have hj:l[j]? = some l[j]:=by simp [h]
 have h1:=splice_row (f:=f) hk (x:=x) h
 rw [←h1]
 have hle:=Nat.mul_le_mul_right k (show j+1≤l.length from h)
 rw [Nat.succ_mul] at hle
 have hL:=flatMap_len hk l
 have hrow:=flatMap_row hk hj
 apply List.ext_getElem?
 intro q
 have hfy:(f l[j]).length=k:=hk _
 have hxq:∀q,(f x)[q]? = if q=r then some v else (f l[j])[q]?:=by
  intro q
  rw [hx _ hj,List.getElem?_set]
  by_cases hq:r=q
  ·subst hq;rw [if_pos rfl,if_pos rfl,if_pos (by omega)]
  ·rw [if_neg hq,if_neg (fun e=>hq e.symm)]
 have hcell:∀q,q < k→(l.flatMap f)[j * k+q]? = (f l[j])[q]?:=by
  intro q hq
  rw [←hrow,List.getElem?_take,if_pos hq,List.getElem?_drop]
 have l1:((l.flatMap f).take (j * k)).length=j * k:=by rw [List.length_take];omega
 have l2:((l.flatMap f).take (j * k+r)).length=j * k+r:=by rw [List.length_take];omega
 have sp:∀(bs new:List PV) (off q:Nat),off+new.length≤bs.length→(splice bs off new)[q]? = if q < off then bs[q]? else if q < off+new.length then new[q - off]? else bs[q]?:=by
  intro bs new off q hle
  unfold splice
  by_cases c1:q < off
  ·rw [if_pos c1,List.append_assoc,List.getElem?_append_left (by rw [List.length_take];omega),List.getElem?_take,if_pos c1]
  ·rw [if_neg c1]
   by_cases c2:q < off+new.length
   ·rw [if_pos c2,List.append_assoc,List.getElem?_append_right (by rw [List.length_take];omega),List.length_take,List.getElem?_append_left (by omega)]
    congr 1;omega
   ·rw [if_neg c2,List.getElem?_append_right (by rw [List.length_append,List.length_take];omega),List.length_append,List.length_take,List.getElem?_drop]
    congr 1;omega
 rw [sp _ _ _ q (by rw [List.length_singleton];omega),sp _ _ _ q (by rw [hk];omega),hk]
 simp only [List.length_cons,List.length_nil,Nat.zero_add]
 by_cases c1:q < j * k
 ·rw [if_pos c1,if_pos (by omega)]
 ·rw [if_neg c1]
  by_cases c2:q < j * k+k
  ·obtain ⟨p,rfl⟩:∃p,q=j * k+p:=⟨q - j * k,by omega⟩
   rw [if_pos c2,Nat.add_sub_cancel_left,hxq]
   rcases Nat.lt_trichotomy p r with c3|c3|c3
   ·rw [if_pos (by omega),if_neg (by omega),hcell p (by omega)]
   ·subst c3
    rw [if_neg (by omega),if_pos (by omega),if_pos rfl,Nat.sub_self];rfl
   ·rw [if_neg (by omega),if_neg (by omega),if_neg (by omega),hcell p (by omega)]
  ·rw [if_neg c2,if_neg (by omega),if_neg (by omega)]
end
section
open Go.ChangeShapes Go.WideShapes Go.ChangeAt Go.RowKit
theorem wfW {z:Int} (h:(Lit.int .u16 z).wf=true):0≤z∧z < 65536:=by
 simp [Lit.wf,IntKind.min,IntKind.max,IntKind.signed,IntKind.bits] at h
 exact ⟨by omega,by omega⟩
theorem argB8:ArgOpens Tryz.prog 5 pbyte (fun z=>0≤z∧z < 256):=(arg_int Tryz.underlying5).map id (fun _ _=>rfl) (fun _ h=>wfB h)
end
section
open Go.RowKit
def xbyte (x b:Int):Int:=IntKind.u8.wrap (BitVec.ofInt IntKind.u8.bits x ^^^ BitVec.ofInt IntKind.u8.bits (IntKind.u8.wrap (1 * 2 ^ (min (b % 8).toNat IntKind.u8.bits)))).toNat
def flipSec (s:Sec) (b:Int):Sec:=⟨s.1.set (b / 8).toNat (xbyte (s.1.getD (b / 8).toNat 0) b),by simp [s.2.1],fun x hx=>by
 rcases List.mem_or_eq_of_mem_set hx with h|h
 ·exact s.2.2 x h
 ·subst h;exact wrap_u8 _⟩
def DCell.spoilt (c:DCell):Bool:=c.s.1 == zeroSec.1 && c.bad == true
def DCell.flip (c:DCell) (b:Int):DCell:=if c.spoilt then c else ⟨flipSec c.s b,c.bad⟩
def DM.flip (D:DM) (i b:Int):Int×DM:=if D.check i=0 then (if b < 0∨512≤b then (1,D) else (0,D.setc i ((D.cell i).flip b))) else (D.check i,D)
theorem peqs_app2:∀{ks ls:List SK} {xs ys us vs:List PV} {a b:Bool},peqs ks xs ys=some a→peqs ls us vs=some b→peqs (ks ++ ls) (xs ++ us) (ys ++ vs)=some (a && b)
 | [],ls,[],[],us,vs,a,b,h,h2=>by simp [peqs] at h;subst h;simpa using h2
 | [],ls,x :: xs,ys,us,vs,a,b,h,h2=>by simp [peqs] at h
 | [],ls,[],y :: ys,us,vs,a,b,h,h2=>by simp [peqs] at h
 |k :: ks,ls,[],ys,us,vs,a,b,h,h2=>by simp [peqs] at h
 |k :: ks,ls,x :: xs,[],us,vs,a,b,h,h2=>by cases x<;>simp [peqs] at h
 |k :: ks,ls,x :: xs,y :: ys,us,vs,a,b,h,h2=>by
  cases x<;>cases y<;>simp only [peqs,reduceCtorEq] at h
  rename_i x y
  cases h3:veq k x y with
  |none=>rw [h3] at h;simp at h
  |some r=>
   cases h4:peqs ks xs ys with
   |none=>rw [h3,h4] at h;simp at h
   |some s=>
    rw [h3,h4] at h
    simp only [Option.some.injEq] at h
    subst h
    simp only [List.cons_append,peqs,h3,peqs_app2 h4 h2,Bool.and_assoc]
theorem peqs_cell (c z:DCell):peqs (List.replicate 64 .int ++ [.bool]) (dcellL c) (dcellL z)=some (c.s.1 == z.s.1 && c.bad == z.bad):=by
 refine peqs_app2 ?_ ?_
 ·have:=peqs_ints (k:=.u8) c.s.1 z.s.1 (by rw [c.s.2.1,z.s.2.1])
  rw [c.s.2.1] at this;exact this
 ·simp [peqs,pbool,veq]
theorem dcellL_byte (c:DCell) {q:Nat} (h:q < 64):(dcellL c)[q]? = some (pbyte (c.s.1.getD q 0)):=by
 rw [dcellL,List.getElem?_append_left (by rw [secL_len];exact h),secL,List.getElem?_map]
 have:q < c.s.1.length:=by rw [c.s.2.1];exact h
 simp [List.getElem?_eq_getElem this]
theorem dcellL_flip (c:DCell) (b:Int) (h:(b / 8).toNat < 64):dcellL ⟨flipSec c.s b,c.bad⟩=(dcellL c).set (b / 8).toNat (pbyte (xbyte (c.s.1.getD (b / 8).toNat 0) b)):=by
 rw [dcellL,dcellL,List.set_append_left _ _ (by rw [secL_len];exact h)]
 simp [secL,flipSec,List.map_set]
set_option maxRecDepth 10000 in
set_option maxHeartbeats 1000000 in
theorem dc_Flip (D:DM) (i b:Int) (hsz:D.cells.length≤1000000000):DCalls 25 [pint i,pint b] D (pint (D.flip i b).1) (D.flip i b).2:=by
 refine dcalls_of_pw Tryz.func25 rfl rfl (by exact lw) (by simp [pint,PV.ownB]) (Nat.le_of_ble_eq_true rfl) (.val _) ?_
 have hck:=dc_check D i 1000001 1000002 1000003 (by decide)
 by_cases h1:D.check i=0
 ·obtain ⟨hd,hi0,hi1⟩:=check0 h1
  by_cases hb0:b < 0
  ·have hr:D.flip i b=(1,D):=by unfold DM.flip;rw [if_pos h1,if_pos (.inl hb0)]
   rw [hr]
   refine wk ?_
   exact RetH.mk rfl (Weak.refl _) ⟨⟨_,rfl,WeakL.refl _⟩,⟨_,rfl,WeakL.refl _⟩,trivial⟩ ⟨⟨rfl,rfl⟩,trivial⟩
  ·by_cases hb1:512≤b
   ·have hr:D.flip i b=(1,D):=by unfold DM.flip;rw [if_pos h1,if_pos (.inr hb1)]
    rw [hr]
    refine wk ?_
    exact RetH.mk rfl (Weak.refl _) ⟨⟨_,rfl,WeakL.refl _⟩,⟨_,rfl,WeakL.refl _⟩,trivial⟩ ⟨⟨rfl,rfl⟩,trivial⟩
   ·have hr:D.flip i b=(0,D.setc i ((D.cell i).flip b)):=by unfold DM.flip;rw [if_pos h1,if_neg (by omega)]
    rw [hr]
    have hq:=peqs_cell (D.cells.getD i.toNat default) ⟨zeroSec,true⟩
    cases hf:(D.cells.getD i.toNat default).spoilt with
    |true=>
     have hc:D.setc i ((D.cell i).flip b)=D:=by
      unfold DM.setc DM.cell DCell.flip
      rw [hf,if_pos rfl]
      have:D.cells.set i.toNat (D.cells.getD i.toNat default)=D.cells:=by
       have hl:i.toNat < D.cells.length:=by omega
       rw [List.getD_eq_getElem?_getD,List.getElem?_eq_getElem hl]
       exact List.set_getElem_self hl
      rw [this]
     rw [hc]
     refine wk ?_
     refine PWops.eqA rfl rfl rfl rfl (ys:=dcellL ⟨zeroSec,true⟩) rfl rfl rfl rfl hq (.inr rfl) ?_
     refine wk ?_
     refine PW.condF (by show PV.val (.bool (!(D.cells.getD i.toNat default).spoilt))=_;rw [hf];rfl) ?_
     refine wk ?_
     exact RetH.mk rfl (Weak.refl _) ⟨⟨_,rfl,WeakL.refl _⟩,⟨_,rfl,WeakL.refl _⟩,trivial⟩ ⟨⟨rfl,rfl⟩,trivial⟩
    |false=>
     have hc:D.setc i ((D.cell i).flip b)=D.setc i ⟨flipSec (D.cells.getD i.toNat default).s b,(D.cells.getD i.toNat default).bad⟩:=by
      unfold DCell.flip DM.cell
      rw [hf];rfl
     rw [hc]
     refine wk ?_
     refine PWops.eqA rfl rfl rfl rfl (ys:=dcellL ⟨zeroSec,true⟩) rfl rfl rfl rfl hq (.inr rfl) ?_
     refine wk ?_
     refine PW.condT (by show PV.val (.bool (!(D.cells.getD i.toNat default).spoilt))=_;rw [hf];rfl) ?_
     refine wk ?_
     have hq64:(b / 8).toNat < 64:=by omega
     refine PWops.ldBC (j:=i.toNat) (k:=65) (r:=(b / 8).toNat * 1) (c:=pbyte ((D.cells.getD i.toNat default).s.1.getD (b / 8).toNat 0)) rfl rfl rfl rfl rfl rfl rfl rfl dcellL_len (by omega) (by rw [Nat.mul_one];exact dcellL_byte _ hq64) rfl ?_
     refine wk ?_
     refine PWops.stB (new := [pbyte (xbyte ((D.cells.getD i.toNat default).s.1.getD (b / 8).toNat 0) b)]) (out:=dC (D.setc i ⟨flipSec (D.cells.getD i.toNat default).s b,(D.cells.getD i.toNat default).bad⟩)) rfl rfl rfl rfl rfl rfl rfl rfl rfl ⟨rfl,?_⟩ ?_ ?_
     ·have hlen:(dC D).length=D.cells.length * 65:=flatMap_len dcellL_len _
      show 0+i.toNat * 65+0+(b / 8).toNat * 1+1≤(dC D).length
      rw [hlen]
      have:=Nat.mul_le_mul_right 65 (show i.toNat+1≤D.cells.length by omega)
      omega
     ·show splice (D.cells.flatMap dcellL) (0+i.toNat * 65+0+(b / 8).toNat * 1) _=(D.cells.set i.toNat _).flatMap dcellL
      rw [show 0+i.toNat * 65+0+(b / 8).toNat * 1=i.toNat * 65+(b / 8).toNat by omega]
      refine splice_cell dcellL_len (by omega) (by omega) ?_
      intro y hy
      have:D.cells.getD i.toNat default=y:=by rw [List.getD_eq_getElem?_getD,hy];rfl
      rw [this]
      exact dcellL_flip y b hq64
     ·refine wk ?_
      exact RetH.mk rfl (Weak.refl _) ⟨⟨_,rfl,WeakL.eq (by simp [dB,DM.setc])⟩,⟨_,rfl,WeakL.refl _⟩,trivial⟩ ⟨⟨rfl,rfl⟩,trivial⟩
 ·have hr:D.flip i b=(D.check i,D):=by unfold DM.flip;rw [if_neg h1]
  rw [hr]
  refine wk ?_
  exact RetH.mk rfl (Weak.refl _) ⟨⟨_,rfl,WeakL.refl _⟩,⟨_,rfl,WeakL.refl _⟩,trivial⟩ ⟨⟨rfl,rfl⟩,trivial⟩
theorem spoilt_mem {rd:Nat→Option PMan} {v f:Int} {n:Nat} {a b:Int} (hst:spP (copiesM rd) v f (copiesM rd).length=(n,a,b)) {k:Int} : k ∈ [a,b].take n↔(k=f∨k=f+1)∧∀(j:Nat) (m:PMan),j < 4→rd j=some m→m.ver=v→k≠(j:Int):=by
 rw [spoilt_list hst,List.mem_filter]
 simp only [List.mem_cons,List.not_mem_nil,or_false,decide_eq_true_eq]
 refine and_congr_right fun _=>⟨fun h j m h1 h2 h3=>h (j,m) (mem_copies.2 ⟨h1,h2⟩) h3,fun h y hy h3=>?_⟩
 obtain ⟨y1,y2⟩:=mem_copies.1 hy
 exact h _ _ y1 y2 h3
end
section
def madeR (n k:Nat):PRef:=⟨((1+k / 5:Nat):Int),((1+k * (1+n % 7):Nat):Int),([((n % 256:Nat):Int),((n / 256 % 256:Nat):Int),(k:Int)]:List Int) ++ List.replicate 13 (0:Int)⟩
def madeM (v:Int) (n:Nat):PMan:=⟨v,(List.range (n % 4)).map fun k=>((n * k:Nat):Int),(List.range' 0 (n % 30)).map (madeR n)⟩
theorem rises_map {f:Nat→PRef} (h1:∀k,k < 30→refOK (f k)=true) (h2:∀k,k < 30→refLt (f k) (f (k+1))=true):∀n a,a+n≤30→risesM ((List.range' a n).map f)=true
 |0,a,_=>rfl
 |1,a,h=>by
  show refOK (f a)=true
  exact h1 a (by omega)
 |n+2,a,h=>by
  have ih:=rises_map h1 h2 (n+1) (a+1) (by omega)
  show (refOK (f a) && (refLt (f a) (f (a+1)) && risesM ((List.range' (a+1) (n+1)).map f)))=true
  rw [h1 a (by omega),h2 a (by omega),ih];rfl
theorem madeM_ok {v:Int} (h0:1≤v) (h1:v≤1000) {n:Nat} (hn:n≤65535):checkM 1 2 (madeM v n)=0∧DigsOK (madeM v n):=by
 have hr:rightM (madeM v n)=true:=by
  have hR:risesM ((List.range' 0 (n % 30)).map (madeR n))=true:=by
   refine rises_map (fun k hk=>?_) (fun k hk=>?_) _ 0 (by omega)
   ·simp only [refOK,Bool.and_eq_true,decide_eq_true_eq]
    simp only [madeR]
    have h3:k * (1+n % 7)≤30 * 7:=Nat.mul_le_mul (by omega) (by omega)
    generalize k * (1+n % 7)=q at *
    refine ⟨?_,?_,?_,?_⟩<;>omega
   ·simp only [refLt,Bool.or_eq_true,Bool.and_eq_true,decide_eq_true_eq]
    simp only [madeR]
    have:(k+1) * (1+n % 7)=k * (1+n % 7)+(1+n % 7):=by rw [Nat.add_mul,Nat.one_mul]
    rw [this]
    generalize k * (1+n % 7)=q at *
    omega
  have hN:((List.range (n % 4)).map fun k=>((n * k:Nat):Int)).all noteOK=true:=by
   rw [List.all_eq_true]
   intro x hx
   obtain ⟨k,hk,rfl⟩:=List.mem_map.1 hx
   have hk:=List.mem_range.1 hk
   have:n * k≤65535 * 4:=Nat.mul_le_mul hn (by omega)
   simp only [noteOK,Bool.and_eq_true,decide_eq_true_eq]
   omega
  unfold rightM madeM
  simp only
  rw [hR,hN]
  simp only [Bool.and_true,Bool.true_and,Bool.and_eq_true,Bool.or_eq_true,decide_eq_true_eq]
  omega
 refine ⟨?_,fun r hr=>?_⟩
 ·unfold checkM
  rw [if_neg (by simp only [madeM,List.length_map,List.length_range,List.length_range'];omega),if_pos hr]
 ·simp only [madeM] at hr
  obtain ⟨k,hk,rfl⟩:=List.mem_map.1 hr
  have hk:=List.mem_range'_1.1 hk
  refine ⟨by simp [madeR],fun c hc=>?_⟩
  simp only [madeR,List.cons_append,List.nil_append,List.mem_cons,List.mem_replicate] at hc
  omega
end
section
open Go.RowKit
variable {Φ0:Ent} {W:World} {M:Nat} {Φ:Imm} {μ:Nat→Option Nat} {ω:Nat→Option Who} {σ:PS} {a:Act} {w:World} {P:Program} {T:Tab}
theorem RelG.weakB (h : RelG Φ0 W M Φ μ ω σ a w) {id : Nat} {bs cs : List PV} (hb : σ.b id = some bs) (hw : WeakL bs cs) : RelG Φ0 W M Φ μ ω (σ.setb id cs) a w :=
  { h with
    box := fun i ds e => by
      simp only [PS.setb, upd_if] at e
      split at e
      · rename_i e'; subst e'; cases e; exact (h.box _ _ hb).weak hw
      · exact h.box i ds e
    gone := fun i e1 e2 => by
      simp only [PS.setb, upd_if] at e1
      split at e1
      · cases e1
      · exact h.gone i e1 e2
    kmu := fun i g e1 e2 => by
      refine h.kmu i g e1 ?_
      by_cases e : i = id
      · subst e; left; rw [hb]; simp
      · simp only [PS.setb, upd_if, if_neg e] at e2
        exact e2 }
theorem PW.weakB {c:Code} {Q:Exit→PS→Prop} {id:Nat} {bs:List PV} (cs:List PV) (hb:σ.b id=some bs) (hw:WeakL bs cs) (h:PW P M c Q (σ.setb id cs)):PW P M c Q σ:=by
 intro Φ0 W a w ⟨Φ,μ,ω,hg⟩
 exact h Φ0 W a w ⟨Φ,μ,ω,hg.weakB hb hw⟩
end
end Go.Proofs.YtmeekbjhpidcgaaGreatDoor
