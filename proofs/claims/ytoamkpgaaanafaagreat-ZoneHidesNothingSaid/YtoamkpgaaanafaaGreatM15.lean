/- Out of: AttrK, PwY, PwZ, PwZ2, PwWk, PwT, AttrL, AttrS, Pb, Pc, PwMk. -/
import Derived.StillTailTactics
import Derived.Deep.Cut
import Derived.Test.YtoamkpgaaanafaaGreatM7
import Derived.Test.YtoamkpgaaanafaaGreatM12
namespace Go.Proofs.YtoamkpgaaanafaaGreat
set_option linter.unusedSimpArgs false
set_option linter.unusedVariables false
set_option linter.unnecessarySimpa false
section
open Go.RowKit
theorem AttrAt.box (w:World) (a:PAttr) (T:TypeId):AttrAt (w.alloc (.cells #[.string a.name, .int .i64 a.kind, .int .i64 a.n, .string a.s] T)) w.heap.size 0 a:=by
 refine ⟨?_,?_,?_,?_⟩<;>simp
theorem eqB_empty (s:ByteArray):eqB s ByteArray.empty=s.toList.isEmpty:=by
 have e:ByteArray.empty.toList = []:=by unfold ByteArray.toList ByteArray.toList.loop;rfl
 unfold eqB
 rw [e]
 cases h:s.toList<;>rfl
set_option maxRecDepth 100000 in
set_option maxHeartbeats 1000000 in
theorem refValue (d:PDef) (wv:Value) (a:PAttr) (w:World) (hs:Strs w wv d.words) (hl:d.words.length≤1000) :
  Calls Tryz.prog 186 #[defV d wv,attrV a] w (RetI w (valueE d a)):=by
 have HS:=Lib.hid (hs.below (below_two w (.cells #[.string d.name, .int .i64 d.kind, .int .i64 d.lo, .int .i64 d.hi,wv] 77) (.cells #[.string a.name, .int .i64 a.kind, .int .i64 a.n, .string a.s] 79)))
 have hw0:=below_two w (.cells #[.string d.name, .int .i64 d.kind, .int .i64 d.lo, .int .i64 d.hi,wv] 77) (.cells #[.string a.name, .int .i64 a.kind, .int .i64 a.n, .string a.s] 79)
 clear hs
 unfold defV attrV
 by_cases h1:a.kind=d.kind
 ·have h1' : (a.kind != d.kind)=false:=by simp [h1]
  by_cases h2:a.kind=1
  ·have h2' : (a.kind == 1)=true:=by simp [h2]
   cases h3:a.s.toList.isEmpty
   ·have F:=Lib.hid (show valueE d a=3 by rw [valueE,if_neg (by simp [h1]),if_pos h2,if_pos (by rw [eqB_empty,h3])])
    clear h1 h2
    go_enter Tryz.func186,Tryz.ntmps186
    go_wp2
    go_ret
    exact RetI.mk F.out.symm hw0
   ·have F:=Lib.hid (show valueE d a=if a.n < d.lo∨d.hi < a.n then 131 else 0 by rw [valueE,if_neg (by simp [h1]),if_pos h2,if_neg (by rw [eqB_empty,h3];simp)])
    have h3' : a.s.toList = []:=by simpa using h3
    clear h1 h2
    cases r1:decide (a.n < d.lo)<;>cases r2:decide (d.hi < a.n)
    all_goals
     go_enter Tryz.func186,Tryz.ntmps186
     go_wp2
     go_ret
     refine RetI.mk ?_ hw0
     rw [F.out]
     simp at r1 r2
     split<;>first|rfl|omega
  ·have h2' : (a.kind == 1)=false:=by simp [h2]
   by_cases h3:a.n=0
   ·have h3' : (a.n != 0)=false:=by simp [h3]
    have F:=Lib.hid (show valueE d a=if hasB d.words a.s then 0 else 131 by rw [valueE,if_neg (by simp [h1]),if_neg h2,if_neg (by simp [h3])])
    clear h1 h2 h3
    cases h4:hasB d.words a.s
    all_goals
     have H4:=Lib.hid h4
     clear h4
     go_enter Tryz.func186,Tryz.ntmps186
     go_wp2_with fail
     refine (refHasS _ d.words a.s _ HS.out (by omega)).mono ?_
     rintro e w' ⟨rfl,rfl⟩
     rw [H4.out]
     go_wp2
     go_ret
     exact RetI.mk (by rw [F.out,H4.out];rfl) hw0
   ·have h3' : (a.n != 0)=true:=by simp [h3]
    have F:=Lib.hid (show valueE d a=3 by rw [valueE,if_neg (by simp [h1]),if_neg h2,if_pos h3])
    clear h1 h2 h3
    go_enter Tryz.func186,Tryz.ntmps186
    go_wp2
    go_ret
    exact RetI.mk F.out.symm hw0
 ·have h1' : (a.kind != d.kind)=true:=by simp [h1]
  have F:=Lib.hid (show valueE d a=130 by rw [valueE,if_pos h1])
  clear h1
  go_enter Tryz.func186,Tryz.ntmps186
  go_wp2
  go_ret
  exact RetI.mk F.out.symm hw0
def GotRet (w:World) (r:PAttr×Bool) (e:Ending) (w' : World):Prop:=
 e = .returned (.agg #[.string r.1.name, .int .i64 r.1.kind, .int .i64 r.1.n, .string r.1.s, .bool r.2])∧Below w.heap.size w w'
theorem GotRet.mk {w w' : World} {r:PAttr×Bool} {a:PAttr} {b:Bool} (h:r=(a,b)) (hb:Below w.heap.size w w'):GotRet w r (.returned (.agg #[.string a.name, .int .i64 a.kind, .int .i64 a.n, .string a.s, .bool b])) w':=by
 subst h;exact ⟨rfl,hb⟩
theorem get1 (g:Nat) (x:PAttr) (nm:ByteArray) (w:World) (c5:w.cell? ⟨g,0,none⟩=some (.string nm)) :
  Calls Tryz.prog 98 #[attrV x, .pointer (some ⟨g,0,none⟩)] w (RetB w (eqB x.name nm)):=by
 have hlt:=World.block_lt_of_cell? _ _ c5
 unfold attrV
 go_enter Tryz.func98,Tryz.ntmps98
 go_wp2
 go_ret
 exact RetB.mk rfl (below_alloc _ _)
theorem cG1:CallOk 98:=fun _ _=>by kernel_rfl
theorem getA_idx (l:List PAttr) (nm:ByteArray):(idxB (l.map fun x=>eqB x.name nm) = -1∧getA l nm=(zeroA,false)) ∨
  ∃(k:Nat) (a:PAttr),idxB (l.map fun x=>eqB x.name nm)=k∧l[k]? = some a∧getA l nm=(a,true):=by
 have key:∀(l:List PAttr) (j:Nat),(idxGo (l.map fun x=>eqB x.name nm) j = -1∧getA l nm=(zeroA,false)) ∨
   ∃(k:Nat) (a:PAttr),idxGo (l.map fun x=>eqB x.name nm) j=((j+k:Nat):Int)∧l[k]? = some a∧getA l nm=(a,true):=by
  intro l
  induction l with
  |nil=>intro j;exact .inl ⟨rfl,rfl⟩
  |cons x r ih=>
   intro j
   simp only [List.map_cons,idxGo,getA]
   cases e:eqB x.name nm
   ·rcases ih (j+1) with ⟨h1,h2⟩|⟨k,a,h1,h2,h3⟩
    ·left;simp only [Bool.false_eq_true,if_false];exact ⟨h1,h2⟩
    ·right;refine ⟨k+1,a,?_,h2,?_⟩
     ·simp only [Bool.false_eq_true,if_false]
      have:(((j+1:Nat):Int))=(j:Int)+1:=by omega
      rw [this] at h1;rw [h1];omega
     ·simpa using h3
   ·right;exact ⟨0,x,by simp,by simp,by simp⟩
 rcases key l 0 with h|⟨k,a,h1,h2,h3⟩
 ·exact .inl h
 ·exact .inr ⟨k,a,by simpa [idxB] using h1,h2,h3⟩
def GetRet (w:World) (r:PAttr×Bool) (e:Ending) (w' : World):Prop:=
 e = .returned (.tuple #[attrV r.1, .bool r.2])∧Below w.heap.size w w'
theorem GetRet.mk {w w' : World} {r:PAttr×Bool} {a:PAttr} {b:Bool} (h:r=(a,b)) (hb:Below w.heap.size w w'):GetRet w r (.returned (.tuple #[.agg #[.string a.name, .int .i64 a.kind, .int .i64 a.n, .string a.s], .bool b])) w':=by
 subst h;exact ⟨rfl,hb⟩
set_option maxRecDepth 100000 in
set_option maxHeartbeats 1000000 in
theorem attrGet (v:Value) (l:List PAttr) (nm:ByteArray) (w:World) (hv:Attrs w v l) (hl:l.length≤1000000) :
  Calls Tryz.prog 37 #[v, .string nm] w (GetRet w (getA l nm)):=by
 have HV:=Lib.hid hv
 obtain ⟨a,cap,b,off,rfl,hcap,hm,ha,hc⟩:=hv.open
 clear hv
 go_enter Tryz.func37,Tryz.ntmps37
 go_wp2_with fail
 refine (indexAttr _ l _ _ (fun x=>eqB x.name nm) _ (HV.out.below (below_two _ _ _)) (by omega) cG1 (fun x hx w' hb=>get1 _ x nm w' (below_cell ((blift (below_alloc _ _) hb)) (by simp)))).mono ?_
 rintro e w1 ⟨rfl,hb⟩
 have hb1:=blift (below_two _ _ _) hb
 have r0:∀j,w1.frozen? ⟨w.heap.size+1,j,none⟩=false:=fun j=>by rw [hb.frozen (by simp)];simp
 have r1:w1.cell? ⟨w.heap.size+1,0,none⟩=some (.string ⟨#[]⟩):=below_cell hb (by simp)
 have r2:w1.cell? ⟨w.heap.size+1,1,none⟩=some (.int .i64 0):=below_cell hb (by simp)
 have r3:w1.cell? ⟨w.heap.size+1,2,none⟩=some (.int .i64 0):=below_cell hb (by simp)
 have r4:w1.cell? ⟨w.heap.size+1,3,none⟩=some (.string ⟨#[]⟩):=below_cell hb (by simp)
 clear hb
 rcases getA_idx l nm with ⟨h1,h2⟩|⟨k,x,h1,h2,h3⟩
 ·have H:=Lib.hid h2
  rw [h1]
  clear h1 h2 hc ha
  go_wp2
  refine bodyPost_ret (v:=.tuple #[.agg #[.string ⟨#[]⟩, .int .i64 0, .int .i64 0, .string ⟨#[]⟩], .bool false]) (by simp [results,Tryz.results37,go_sem,r0,r1,r2,r3,r4]) rfl (GetRet.mk (a:=zeroA) H.out ((((hb1.setCell ?_ _).setCell ?_ _).setCell ?_ _).setCell ?_ _))<;>simp
 ·have H:=Lib.hid h3
  have hk:k < l.length:=(List.getElem?_eq_some_iff.1 h2).1
  obtain ⟨c0,c1,c2,c3⟩:=(hc.out k x h2).below hb1
  obtain rfl:=ha (by omega)
  have hbl:b < w.heap.size:=(hc.out k x h2).lt
  rw [h1]
  clear h1 h2 h3 hc ha
  go_wp2
  refine bodyPost_ret (v:=.tuple #[.agg #[.string x.name, .int .i64 x.kind, .int .i64 x.n, .string x.s], .bool true]) (by simp [results,Tryz.results37,go_sem,r0,r1,r2,r3,r4]) rfl (GetRet.mk H.out ((((hb1.setCell ?_ _).setCell ?_ _).setCell ?_ _).setCell ?_ _))<;>simp
end
section
open Go.RowKit
variable {P:Program} {T:Tab} {σ:PS} {o:Oper} {i base:Nat} {ops:Array Oper} {ok:Nat→Nat→Bool} {rest:List (Nat×Oper)} {K:PS→Prop}
theorem pres_pval {d:Nat} {p:PV} (hg:pguard ops σ o=some true) (hd:o.dst=some d) (hE:presE T (headB ops o.dst) (base+i) (σ.only (ok i)) o.op=some ⟨p,[],none,[]⟩) (hb:σ.freeB (base+i)=true) (k:PWops P T ops base ok rest K (σ.put d p)):PWops P T ops base ok ((i,o) :: rest) K σ:=
 PWops.valEq hg hd hE rfl hb k
theorem PWops.idxM {d n k m e by_ o' : Nat} {z:Int} {zr:List PV} {kk:IntKind} {x ix:Operand} {t:TypeId} {ti:TyI} (hg:pguard ops σ o=some true) (hd:o.dst=some d) (hop:o.op = .indexAddr t x ix) (hx:pev σ x = .msl m o' n k) (hi:pev σ ix = .val (.int kk z)) (ht:T.at t=some ti) (hk:ti.kind = .slice e k by_ zr) (hb:σ.freeB (base+i)=true) (h0:0≤z∧z < n)
  (kn:PWops P T ops base ok rest K (σ.put d (.ptr m (o' + z.toNat * k)))):PWops P T ops base ok ((i,o) :: rest) K σ:=by
 refine pres_pval hg hd ?_ hb kn
 have h1:k=k∧(0:Int)≤z∧z < (n:Int):=⟨rfl,h0.1,h0.2⟩
 simp [hop,presE,pvalA,pval,pev_only,hx,hi,ht,hk,pindexAt,h1]
theorem PWops.idxP {d n k m o' : Nat} {e:TypeId} {ag:Bool} {z:Int} {kk:IntKind} {x ix:Operand} {t:TypeId} {ti:TyI} (hg:pguard ops σ o=some true) (hd:o.dst=some d) (hop:o.op = .indexAddr t x ix) (hx:pev σ x = .ptr m o') (hi:pev σ ix = .val (.int kk z)) (ht:T.at t=some ti) (hk:ti.kind = .arr n e k ag) (hb:σ.freeB (base+i)=true) (h0:0≤z∧z < n)
  (kn:PWops P T ops base ok rest K (σ.put d (.ptr m (o' + z.toNat * k)))):PWops P T ops base ok ((i,o) :: rest) K σ:=by
 refine pres_pval hg hd ?_ hb kn
 have h1:(0:Int)≤z∧z < (n:Int):=h0
 simp [hop,presE,pvalA,pval,pev_only,hx,hi,ht,hk,pindexAt,h1]
theorem ploadO_ptr {hd:Bool} {b:Nat→Option (List PV)} {t:TypeId} {id off:Nat} {bs:List PV} {ti:TyI} (hb:b id=some bs) (ht:T.at t=some ti) (h:ti.agg=true∨∃c,bs[off]? = some c∧c.ownB=false):ploadO T hd b t (.ptr id off)=none:=by
 simp only [ploadO]
 split
 ·rw [hb]
  simp only
  rcases h with h|⟨c,hc,h⟩
  ·split
   ·rw [ht];simp [h]
   ·rfl
  ·rw [hc]
   cases c with
   |sl n k cs own=>cases own with
    |none=>rfl
    |some E=>simp [PV.ownB] at h
   |_=>rfl
 ·rfl
theorem PWops.ldBA {d off m id:Nat} {bs row:List PV} {x:Operand} {t:TypeId} {kd:TD} {zr:List PV} {es:List SK} (hg:pguard ops σ o=some true) (hd:o.dst=some d) (hop:o.op = .load t x) (hx:pev σ x = .ptr id off) (ht:T.at t=some ⟨m,true,kd,zr,es⟩) (hb:σ.freeB (base+i)=true) (hbs:(σ.only (ok i)).b id=some bs) (hl:off+m≤bs.length) (hr:((bs.drop off).take m).map PV.bare=row)
  (kn:PWops P T ops base ok rest K (σ.put d (.agg row))):PWops P T ops base ok ((i,o) :: rest) K σ:=by
 refine PWops.valEq hg hd (p:=.agg (((bs.drop off).take m).map PV.bare)) ?_ (by rw [hr]) hb kn
 have h1:=ploadO_ptr (T:=T) (hd:=headB ops o.dst) (off:=off) hbs ht (.inl rfl)
 simp only [hop,presE,pev_only,hx,h1,pvalA,pval,ht,ploadAt,hbs,asVal,if_true,hl,Option.map_some]
theorem PWops.ldB {d off id:Nat} {bs:List PV} {c:PV} {x:Operand} {t:TypeId} {ti:TyI} (hg:pguard ops σ o=some true) (hd:o.dst=some d) (hop:o.op = .load t x) (hx:pev σ x = .ptr id off) (ht:T.at t=some ti) (ha:ti.agg=false) (hb:σ.freeB (base+i)=true) (hbs:(σ.only (ok i)).b id=some bs) (hc:bs[off]? = some c) (hn:c.ownB=false)
  (kn:PWops P T ops base ok rest K (σ.put d c)):PWops P T ops base ok ((i,o) :: rest) K σ:=by
 refine PWops.valEq hg hd (p:=c) ?_ rfl hb kn
 have h1:=ploadO_ptr (T:=T) (hd:=headB ops o.dst) (off:=off) hbs ht (.inr ⟨c,hc,hn⟩)
 simp only [hop,presE,pev_only,hx,h1,pvalA,pval,ht,ploadAt,hbs,asVal,ha,hc,Bool.false_eq_true,if_false,Option.map_some,PV.bare_of _ hn]
theorem PWops.stB {off id:Nat} {bs new out:List PV} {x y:Operand} {t:TypeId} {ti:TyI} (hg:pguard ops σ o=some true) (hd:o.dst=none) (hop:o.op = .store t x y) (hx:pev σ x = .ptr id off) (hn:(ownPV σ y).ownB=false) (hp:pcells (pev σ y)=some new) (ht:T.at t=some ti) (hb:σ.freeB (base+i)=true) (hbs:(σ.only (ok i)).b id=some bs) (hl:new.length=ti.size∧off+new.length≤bs.length) (hout:splice bs off new=out)
  (kn:PWops P T ops base ok rest K (σ.setb id out)):PWops P T ops base ok ((i,o) :: rest) K σ:=by
 refine PWops.step hg (E:=⟨.tup [],[(id,out)],none,[]⟩) ?_ hb ?_
 ·have hn' : (ownPV (σ.only (ok i)) y).ownB=false:=by cases y<;>exact hn
  have hl1:=hl.1
  have hl2:=hl.2
  have hsp:=splF_eq _ _ _ hl2
  rw [hout] at hsp
  simp only [hop,presE,pev_only,hx,hn',hbs,ht,hp,Bool.false_eq_true,if_false]
  rw [if_pos ⟨hl1,hl2⟩,hsp]
 ·rw [hd];exact kn
theorem PWops.ldAll {d m id:Nat} {cs:List PV} {x:Operand} {t:TypeId} {kd:TD} {zr:List PV} {es:List SK} (hg:pguard ops σ o=some true) (hd:o.dst=some d) (hop:o.op = .load t x) (hx:pev σ x = .ptr id 0) (ht:T.at t=some ⟨m,true,kd,zr,es⟩) (hb:σ.freeB (base+i)=true) (hbs:(σ.only (ok i)).b id=some cs) (hl:cs.length=m) (hr:cs.map PV.bare=cs)
  (kn:PWops P T ops base ok rest K (σ.put d (.agg cs))):PWops P T ops base ok ((i,o) :: rest) K σ:=
 PWops.ldBA hg hd hop hx ht hb hbs (by omega) (by rw [List.drop_zero,List.take_of_length_le (by omega)];exact hr) kn
theorem PWops.stAll {id:Nat} {bs new:List PV} {x y:Operand} {t:TypeId} {ti:TyI} (hg:pguard ops σ o=some true) (hd:o.dst=none) (hop:o.op = .store t x y) (hx:pev σ x = .ptr id 0) (hn:(ownPV σ y).ownB=false) (hv:pev σ y = .agg new) (ht:T.at t=some ti) (hb:σ.freeB (base+i)=true) (hbs:(σ.only (ok i)).b id=some bs) (hl:new.length=ti.size) (hl2:bs.length=ti.size) (ho:new.all PV.one=true) (hr:new.map PV.bare=new)
  (kn:PWops P T ops base ok rest K (σ.setb id new)):PWops P T ops base ok ((i,o) :: rest) K σ:=
 PWops.stB hg hd hop hx hn (new:=new) (by rw [hv];simp only [pcells,ho,if_true,hr]) ht hb hbs ⟨hl,by omega⟩ (by
  have:splice bs 0 new=new:=by unfold splice;simp;omega
  exact this) kn
theorem PWops.boxA {d:Nat} {cs:List PV} {x:Operand} {t:TypeId} (hg:pguard ops σ o=some true) (hd:o.dst=some d) (hop:o.op = .box t x) (hx:pev σ x = .agg cs) (hb:σ.freeB (base+i)=true) (ho:cs.all PV.one=true) (hr:cs.map PV.bare=cs)
  (kn:PWops P T ops base ok rest K ((σ.setb (base+i) cs).put d (.ptr (base+i) 0))):PWops P T ops base ok ((i,o) :: rest) K σ:=by
 refine PWops.step hg (E:=⟨.ptr (base+i) 0,[(base+i,cs)],none,[]⟩) ?_ hb (by rw [hd];exact kn)
 have h1:(σ.only (ok i)).b (base+i)=none∧(σ.only (ok i)).m (base+i)=none:=by
  obtain ⟨q1,q2⟩:=PS.freeB_spec hb
  simp only [PS.only,q1,q2]
  constructor<;>split<;>rfl
 simp only [hop,presE,pev_only,hx,pcells,ho,if_true,hr,h1.1,h1.2]
theorem PWops.ldRB {α:Type} [Inhabited α] {d j k:Nat} {f:α→List PV} {l:List α} {x:Operand} {t:TypeId} {kd:TD} {zr:List PV} {es:List SK} (hg:pguard ops σ o=some true) (hd:o.dst=some d) (hop:o.op = .load t x) (hx:pev σ x = .ep (l.flatMap f) (j * k)) (ht:T.at t=some ⟨k,true,kd,zr,es⟩) (hb:σ.freeB (base+i)=true) (hk:∀x,(f x).length=k) (hl:j < l.length) (hr:∀x,(f x).map PV.bare=f x)
  (kn:PWops P T ops base ok rest K (σ.put d (.agg (f (l.getD j default))))):PWops P T ops base ok ((i,o) :: rest) K σ:=by
 refine PWops.ldA hg hd hop hx ht hb ?_ ?_ kn
 ·rw [flatMap_len hk]
  have:=Nat.mul_le_mul_right k (show j+1≤l.length from hl)
  rw [Nat.succ_mul] at this;exact this
 ·rw [flatMap_row hk (getD_get default hl)];exact hr _
theorem PWops.ldBR {α:Type} [Inhabited α] {d j k id:Nat} {f:α→List PV} {l:List α} {row:List PV} {x:Operand} {t:TypeId} {kd:TD} {zr:List PV} {es:List SK} (hg:pguard ops σ o=some true) (hd:o.dst=some d) (hop:o.op = .load t x) (hx:pev σ x = .ptr id (0+j * k)) (ht:T.at t=some ⟨k,true,kd,zr,es⟩) (hb:σ.freeB (base+i)=true) (hbs:(σ.only (ok i)).b id=some (l.flatMap f)) (hk:∀x,(f x).length=k) (hl:j < l.length) (hr:(f (l.getD j default)).map PV.bare=row)
  (kn:PWops P T ops base ok rest K (σ.put d (.agg row))):PWops P T ops base ok ((i,o) :: rest) K σ:=by
 refine PWops.ldBA hg hd hop hx ht hb hbs ?_ ?_ kn
 ·rw [flatMap_len hk]
  have:=Nat.mul_le_mul_right k (show j+1≤l.length from hl)
  rw [Nat.succ_mul] at this;omega
 ·rw [Nat.zero_add,flatMap_row hk (getD_get default hl)];exact hr
theorem PWops.ldBC {α:Type} [Inhabited α] {d j k r id:Nat} {f:α→List PV} {l:List α} {c:PV} {x:Operand} {t:TypeId} {ti:TyI} (hg:pguard ops σ o=some true) (hd:o.dst=some d) (hop:o.op = .load t x) (hx:pev σ x = .ptr id (0+j * k+r)) (ht:T.at t=some ti) (ha:ti.agg=false) (hb:σ.freeB (base+i)=true) (hbs:(σ.only (ok i)).b id=some (l.flatMap f)) (hk:∀x,(f x).length=k) (hl:j < l.length) (hc:(f (l.getD j default))[r]? = some c) (hn:c.ownB=false)
  (kn:PWops P T ops base ok rest K (σ.put d c)):PWops P T ops base ok ((i,o) :: rest) K σ:=
 PWops.ldB hg hd hop hx ht ha hb hbs (by rw [Nat.zero_add];exact flatMap_get hk (getD_get default hl) hc) hn kn
theorem PWops.lkp {d mid clock kt et:Nat} {x k:Operand} {t:TypeId} {okk:Bool} {es:List (Nat×PV×PV)} {kv:Value} {ti ki ei:TyI} {c:PV} {b:Bool} (hg:pguard ops σ o=some true) (hd:o.dst=some d) (hop:o.op = .lookup t x k okk) (hx:pev σ x = .mref mid) (hm:(σ.only (ok i)).m mid=some (.map es clock)) (hkv:pev σ k = .val kv) (ht:T.at t=some ti) (hk:ti.kind = .map kt et) (hki:T.at kt=some ki) (hei:T.at et=some ei) (hb:σ.freeB (base+i)=true)
  (hget:mget ki ei es kv=some (c,b)) (kn:PWops P T ops base ok rest K (σ.put d (if okk then .tup [c, .val (.bool b)] else c))):PWops P T ops base ok ((i,o) :: rest) K σ:=by
 refine PWops.valEq hg hd (p:=if okk then .tup [c, .val (.bool b)] else c) ?_ rfl hb kn
 simp only [hop,presE,pvalA,pval,pvalX,ht,hk,plookup,pev_only,hx,hkv,hki,hei,pents,hm,hget,Option.map_some]
theorem PWops.mput {mid clock kt et:Nat} {x k v:Operand} {t:TypeId} {es:List (Nat×PV×PV)} {kv:Value} {ti ki:TyI} {X:PMap} {p:PV} (hg:pguard ops σ o=some true) (hd:o.dst=none) (hop:o.op = .mapUpdate t x k v) (hx:pev σ x = .mref mid) (hm:(σ.only (ok i)).m mid=some (.map es clock)) (hkv:pev σ k = .val kv) (ht:T.at t=some ti) (hk:ti.kind = .map kt et) (hki:T.at kt=some ki) (hb:σ.freeB (base+i)=true)
  (hn:(ownPV σ v).ownB=false) (hv:pev σ v=p) (hput:Go.Proofs.YtoamkpgaaanafaaGreat.mput ki es clock kv p=some X) (kn:PWops P T ops base ok rest K (σ.setm mid X)):PWops P T ops base ok ((i,o) :: rest) K σ:=by
 refine PWops.stepM hg (E:=⟨.tup [],[],none,[(mid,X)]⟩) ?_ hb ?_
 ·have hn' : (ownPV (σ.only (ok i)) v).ownB=false:=by cases v<;>exact hn
  simp only [hop,presM,pput,ht,hk,hki,pev_only,hx,mapOf,hm,hkv,ownArg,hn',Bool.false_eq_true,if_false,hv,hput,Option.map_some]
 ·rw [hd];exact kn
theorem PWops.eqA {d:Nat} {op:BinOp} {xs ys:List PV} {x y:Operand} {t yt:TypeId} {ti:TyI} {b:Bool} (hg:pguard ops σ o=some true) (hd:o.dst=some d) (hop:o.op = .binOp op t x y yt) (hx:pev σ x = .agg xs) (hy:pev σ y = .agg ys) (ht:T.at t=some ti) (hb:σ.freeB (base+i)=true) (hne:ti.eqs.isEmpty=false) (h:peqs ti.eqs xs ys=some b) (ho:op = .eql∨op = .neq) (kn:PWops P T ops base ok rest K (σ.put d (.val (.bool (if op = .eql then b else !b))))):PWops P T ops base ok ((i,o) :: rest) K σ:=by
 refine PWops.valEq hg hd (p:=.val (.bool (if op = .eql then b else !b))) ?_ rfl hb kn
 have:pbinA op ti.eqs xs ys=some (.bool (if op = .eql then b else !b)):=by
  unfold pbinA
  cases he:ti.eqs with
  |nil=>rw [he] at hne;cases hne
  |cons k ks=>
   rw [he] at h
   rcases ho with rfl|rfl
   ·simp [h]
   ·simp [h]
 simp only [hop,presE,pvalA,pval,pev_only,hx,hy,ht,this,Option.map_some]
theorem peqs_ints {k:IntKind} : ∀(xs ys:List Int),xs.length=ys.length→peqs (List.replicate xs.length .int) (xs.map fun x=>.val (.int k x)) (ys.map fun x=>.val (.int k x))=some (xs == ys)
 | [],[],_=>rfl
 |x :: xs,y :: ys,h=>by
  have ih:=peqs_ints (k:=k) xs ys (by simpa using h)
  simp only [List.length_cons,List.replicate_succ,List.map_cons,peqs,veq,if_true,ih]
  rfl
 | [],y :: ys,h=>by simp at h
 |x :: xs,[],h=>by simp at h
theorem PWops.shlK {d:Nat} {k k' : IntKind} {x y:Int} {X Y:Operand} {t yt:TypeId} (hg:pguard ops σ o=some true) (hd:o.dst=some d) (hop:o.op = .binOp .shl t X Y yt) (hx:pev σ X = .val (.int k x)) (hy:pev σ Y = .val (.int k' y)) (hb:σ.freeB (base+i)=true) (h0:0≤y) (kn:PWops P T ops base ok rest K (σ.put d (.val (.int k (k.wrap (x * 2 ^ (min y.toNat k.bits))))))):PWops P T ops base ok ((i,o) :: rest) K σ:=by
 refine PWops.valEq hg hd (p:=.val (.int k (k.wrap (x * 2 ^ (min y.toNat k.bits))))) ?_ rfl hb kn
 simp only [hop,presE,pvalA,pval,pev_only,hx,hy,pbin,h0,if_true]
 rfl
theorem PWops.shrK {d:Nat} {k k' : IntKind} {x y:Int} {X Y:Operand} {t yt:TypeId} (hg:pguard ops σ o=some true) (hd:o.dst=some d) (hop:o.op = .binOp .shr t X Y yt) (hx:pev σ X = .val (.int k x)) (hy:pev σ Y = .val (.int k' y)) (hb:σ.freeB (base+i)=true) (h0:0≤y) (kn:PWops P T ops base ok rest K (σ.put d (.val (.int k (x.fdiv (2 ^ (min y.toNat k.bits))))))):PWops P T ops base ok ((i,o) :: rest) K σ:=by
 refine PWops.valEq hg hd (p:=.val (.int k (x.fdiv (2 ^ (min y.toNat k.bits))))) ?_ rfl hb kn
 simp only [hop,presE,pvalA,pval,pev_only,hx,hy,pbin,h0,if_true]
 rfl
theorem PWops.litA {d k e by_:Nat} {cs zr:List PV} {x:Operand} {t:TypeId} {ti:TyI} (hg:pguard ops σ o=some true) (hd:o.dst=some d) (hop:o.op = .buildSlice t 1 #[(0,x)]) (hx:pev σ x = .agg cs) (ht:T.at t=some ti) (hk:ti.kind = .slice e k by_ zr) (hb:σ.freeB (base+i)=true) (hl:cs.length=k) (hz:zr.length=k) (hk2:Nat.ble k 16777216=true) (he:Nat.blt e 1000000=true) (ho:cs.all PV.one=true) (hr:cs.map PV.bare=cs) (kn:PWops P T ops base ok rest K (σ.put d (.sl 1 k cs (some e)))):PWops P T ops base ok ((i,o) :: rest) K σ:=by
 refine PWops.step hg (E:=⟨.sl 1 k cs (some e),[],none,[]⟩) ?_ hb (by rw [hd];exact kn)
 have e1:(List.replicate 1 zr).flatten=zr:=by simp
 have hle:1 * k≤16777216:=by have:=Nat.le_of_ble_eq_true hk2;omega
 have he' : e < 1000000:=by simpa [Nat.blt_eq] using he
 have hs:splF zr 0 cs=cs:=by
  rw [splF_eq _ _ _ (by omega)]
  unfold splice;simp;omega
 simp only [hop,presE,ht,hk,hle,he',and_self,if_true,e1,List.map_cons,List.map_nil,pev_only,hx,pfill,pcells,ho,hr,hl,hz,Nat.zero_mul,Nat.zero_add,Nat.le_refl,and_self,hs,Option.map_some]
end
section
open Go.RowKit
theorem PW.condTe {P:Program} {M:Nat} {Q:Exit→PS→Prop} {σ:PS} {c:Operand} {x y:Code} {b:Bool} (hc:pev σ c = .val (.bool b)) (hb:b=true) (h:PW P M x Q σ):PW P M (.cond c x y) Q σ:=PW.condT (by rw [hc,hb]) h
theorem PW.condFe {P:Program} {M:Nat} {Q:Exit→PS→Prop} {σ:PS} {c:Operand} {x y:Code} {b:Bool} (hc:pev σ c = .val (.bool b)) (hb:b=false) (h:PW P M y Q σ):PW P M (.cond c x y) Q σ:=PW.condF (by rw [hc,hb]) h
end
section
open Go.RowKit
variable {P:Program} {M:Nat} {Q:Exit→PS→Prop} {σ:PS}
def PWin (P:Program) (M:Nat) (c:Code) (Q:Exit→PS→Prop) (σ:PS):Prop:=
 ∀Φ0 W a w,Rel Φ0 W M σ a w→∀b k cs,b.roundOf=(FW Φ0.round).round→(FW Φ0.round).fn b.fn→(FW Φ0.round).room (cs.length+1+0)→∃e a' w',Lift Φ0 W M Q e a' w'∧ArrivesIn (Machine.fenced P (FW Φ0.round)) P (lone (b.atR a (.code c :: .inLoop c :: k)) cs w) b k cs e a' w'
theorem PWin.from {c:Code} (h:PWin P M c Q σ) {Φ0 Φ1:Ent} {W W1:World} (hl:Later Φ0 W Φ1 W1) {a:Act} {w:World} (hr:Rel Φ1 W1 M σ a w):∀b k cs,b.roundOf=(FW Φ0.round).round→(FW Φ0.round).fn b.fn→(FW Φ0.round).room (cs.length+1+0)→∃e a' w',Lift Φ0 W M Q e a' w'∧ArrivesIn (Machine.fenced P (FW Φ0.round)) P (lone (b.atR a (.code c :: .inLoop c :: k)) cs w) b k cs e a' w':=by
 have:=h Φ1 W1 a w hr
 rw [hl.round] at this
 intro b k cs h1 h2 h3
 obtain ⟨e,a',w',hq,harr⟩:=this b k cs h1 h2 h3
 exact ⟨e,a',w',hq.later hl,harr⟩
def LoopU (P:Program) (M:Nat) (c:Code) (Q:Exit→PS→Prop):Exit→PS→Prop
 | .normal,σ=>PWin P M c Q σ
 |e,σ=>Q e σ
theorem PWin.round {c:Code} (h:PW P M c (LoopU P M c Q) σ):PWin P M c Q σ:=by
 intro Φ0 W a w hr b k cs hro hb hroom
 obtain ⟨e,a₁,w₁,⟨σ₁,Φ1,W1,hq,hl,hrel⟩,harr⟩:=h Φ0 W a w hr b (.inLoop c :: k) cs hro hb hroom
 cases e with
 |normal=>
  obtain ⟨e₂,a₂,w₂,hq₂,harr₂⟩:=PWin.from hq hl hrel b k cs hro hb hroom
  exact ⟨e₂,a₂,w₂,hq₂, .of_steps (StepsIn.trans harr (.one (fenced_calm hb hroom rfl) stepR_inLoop)) harr₂⟩
 |exit id=>exact ⟨_,a₁,w₁,⟨σ₁,Φ1,W1,hq,hl,hrel⟩, .pass (x:=.inLoop c) rfl (fun _ _=>.inl (by simp)) harr⟩
 |goto l=>exact ⟨_,a₁,w₁,⟨σ₁,Φ1,W1,hq,hl,hrel⟩, .pass (x:=.inLoop c) rfl (fun _ _=>.inl (by simp)) harr⟩
 |ret=>exact ⟨_,a₁,w₁,⟨σ₁,Φ1,W1,hq,hl,hrel⟩, .pass (x:=.inLoop c) rfl (fun _ _=>.inl (by simp)) harr⟩
 |panic ch=>exact ⟨_,a₁,w₁,⟨σ₁,Φ1,W1,hq,hl,hrel⟩, .pass (x:=.inLoop c) rfl (fun _ _=>.inl (by simp)) harr⟩
 |outgrown=>exact ⟨_,a₁,w₁,⟨σ₁,Φ1,W1,hq,hl,hrel⟩, .pass (x:=.inLoop c) rfl (fun _ _=>.inl (by simp)) harr⟩
theorem loopU_exit {c:Code} {j:Nat} (h:Q (.exit j) σ):LoopU P M c Q (.exit j) σ:=h
theorem loopU_ret {c:Code} (h:Q .ret σ):LoopU P M c Q .ret σ:=h
end
section
open Go.RowKit
variable {κ:Nat→Nat} {S:Nat→Prop} {σ σ' : PS}
theorem SubR.isb {i:Nat} {c:List PV} (h:SubR κ S σ (σ'.setb i c)):SubR κ S σ (σ'.setb i c):=h
theorem SubR.ism {i:Nat} {c:PMap} (h:SubR κ S σ (σ'.setm i c)):SubR κ S σ (σ'.setm i c):=h
theorem SubR.isp {i:Nat} {c:PV} (h:SubR κ S σ (σ'.put i c)):SubR κ S σ (σ'.put i c):=h
end
section
open Go.RowKit
def pu32 (z:Int):PV:=.val (.int .u32 z)
def pu64 (z:Int):PV:=.val (.int .u64 z)
theorem low_pu32 (z:Int):Low (pu32 z)↔True:=low_val _
theorem low_pu64 (z:Int):Low (pu64 z)↔True:=low_val _
theorem len_map {α β:Type} {f:α→β} {l:List α} {n:Nat} (h:l.length=n):(l.map f).length=n:=by rw [List.length_map,h]
theorem bare_map {α:Type} {f:α→PV} (h:∀x,(f x).bare=f x) (l:List α):(l.map f).map PV.bare=l.map f:=by rw [List.map_map];exact List.map_congr_left fun x _=>h x
theorem one_map {α:Type} {f:α→PV} (h:∀x,(f x).one=true) (l:List α):(l.map f).all PV.one=true:=by rw [List.all_map,List.all_eq_true];exact fun x _=>h x
theorem low_map {α:Type} {f:α→PV} (h:∀x,Low (f x)) (l:List α):∀c∈l.map f,Low c:=by
 intro c hc
 obtain ⟨z,-,rfl⟩:=List.mem_map.1 hc
 exact h z
theorem RenQL.lowE {κ:Nat→Nat} {S:Nat→Prop} {qs ps:List PV} (h:qs=ps) (hl:∀p∈ps,Low p):RenQL κ S qs ps:=by subst h;exact RenQL.low hl
end
section
open Go.RowKit
variable {P:Program} {T:Tab} {σ:PS} {o:Oper} {i base:Nat} {ops:Array Oper} {ok:Nat→Nat→Bool} {rest:List (Nat×Oper)} {K:PS→Prop}
def notI64:IntKind→Bool
 | .i64=>false
 |_=>true
theorem PWops.arU {d:Nat} {k:IntKind} {z:Int} (hk:isArith o.op=true) (hg:pguard ops σ o=some true) (hd:o.dst=some d) (hE:feff (presE T (headB ops o.dst) (base+i) (σ.only (ok i)) o.op)=some (.val (.int k z))) (hn:notI64 k=true) (hb:σ.freeB (base+i)=true) (kn:PWops P T ops base ok rest K (σ.put d (.val (.int k z)))):PWops P T ops base ok ((i,o) :: rest) K σ:=PWops.val hg hd hE hb kn
theorem PWops.idxE1 {d n:Nat} {e:TypeId} {ag:Bool} {z:Int} {cs:List PV} {kk:IntKind} {x ix:Operand} {t:TypeId} {ti:TyI} (hg:pguard ops σ o=some true) (hd:o.dst=some d) (hop:o.op = .indexAddr t x ix) (hx:pev σ x = .ep cs 0) (hi:pev σ ix = .val (.int kk z)) (ht:T.at t=some ti) (hk:ti.kind = .arr n e 1 ag) (hb:σ.freeB (base+i)=true) (h0:0≤z∧z < n)
  (kn:PWops P T ops base ok rest K (σ.put d (.ep cs z.toNat))):PWops P T ops base ok ((i,o) :: rest) K σ:=by
 refine pres_pval hg hd ?_ hb kn
 have h1:(0:Int)≤z∧z < (n:Int):=h0
 simp [hop,presE,pvalA,pval,pev_only,hx,hi,ht,hk,pindexAt,h1]
theorem PWops.idxP1 {d n m:Nat} {e:TypeId} {ag:Bool} {z:Int} {kk:IntKind} {x ix:Operand} {t:TypeId} {ti:TyI} (hg:pguard ops σ o=some true) (hd:o.dst=some d) (hop:o.op = .indexAddr t x ix) (hx:pev σ x = .ptr m 0) (hi:pev σ ix = .val (.int kk z)) (ht:T.at t=some ti) (hk:ti.kind = .arr n e 1 ag) (hb:σ.freeB (base+i)=true) (h0:0≤z∧z < n)
  (kn:PWops P T ops base ok rest K (σ.put d (.ptr m z.toNat))):PWops P T ops base ok ((i,o) :: rest) K σ:=by
 refine pres_pval hg hd ?_ hb kn
 have h1:(0:Int)≤z∧z < (n:Int):=h0
 simp [hop,presE,pvalA,pval,pev_only,hx,hi,ht,hk,pindexAt,h1]
theorem PWops.idxV {α:Type} [Inhabited α] {d n:Nat} {e:TypeId} {z:Int} {f:α→PV} {l:List α} {q:PV} {kk:IntKind} {x ix:Operand} {t:TypeId} {ti:TyI} (hg:pguard ops σ o=some true) (hd:o.dst=some d) (hop:o.op = .index t x ix) (hx:pev σ x = .agg (l.map f)) (hi:pev σ ix = .val (.int kk z)) (ht:T.at t=some ti) (hk:ti.kind = .arr n e 1 false) (hb:σ.freeB (base+i)=true) (h0:0≤z∧z < n∧z < l.length) (hq:fval (f (l.getD z.toNat default)).bare=some q)
  (kn:PWops P T ops base ok rest K (σ.put d q)):PWops P T ops base ok ((i,o) :: rest) K σ:=by
 refine PWops.valEq hg hd (p:=(f (l.getD z.toNat default)).bare) ?_ (fval_eq hq) hb kn
 have h1:(0:Int)≤z∧z < (n:Int):=⟨h0.1,h0.2.1⟩
 have h2:(l.map f)[z.toNat]? = some (f (l.getD z.toNat default)):=map_get (getD_get default (by omega))
 simp [hop,presE,pvalA,pval,pev_only,hx,hi,ht,hk,pindexV,h1,asVal,h2]
theorem PWops.ldG {d m:Nat} {cs:List PV} {x:Operand} {t:TypeId} {kd:TD} {zr:List PV} {es:List SK} (hg:pguard ops σ o=some true) (hd:o.dst=some d) (hop:o.op = .load t x) (hx:pev σ x = .ep cs 0) (ht:T.at t=some ⟨m,true,kd,zr,es⟩) (hb:σ.freeB (base+i)=true) (hl:cs.length=m) (hr:cs.map PV.bare=cs)
  (kn:PWops P T ops base ok rest K (σ.put d (.agg cs))):PWops P T ops base ok ((i,o) :: rest) K σ:=by
 refine PWops.ldA hg hd hop hx ht hb (by omega) ?_ kn
 rw [List.drop_zero,List.take_of_length_le (by omega)];exact hr
theorem PWops.ldMB {α:Type} [Inhabited α] {d id off:Nat} {f:α→PV} {l:List α} {q:PV} {x:Operand} {t:TypeId} {ti:TyI} (hg:pguard ops σ o=some true) (hd:o.dst=some d) (hop:o.op = .load t x) (hx:pev σ x = .ptr id off) (ht:T.at t=some ti) (ha:ti.agg=false) (hb:σ.freeB (base+i)=true) (hbs:(σ.only (ok i)).b id=some (l.map f)) (hl:off < l.length) (hq:fval (f (l.getD off default))=some q) (hn:(f (l.getD off default)).ownB=false)
  (kn:PWops P T ops base ok rest K (σ.put d q)):PWops P T ops base ok ((i,o) :: rest) K σ:=
 PWops.ldB hg hd hop hx ht ha hb hbs (map_get (getD_get default hl)) hn (by rw [fval_eq hq];exact kn)
theorem set_map {α β:Type} (f:α→β) (l:List α) (j:Nat) (x:α):(l.map f).set j (f x)=(l.set j x).map f:=by
 rw [List.map_set]
theorem splice_one {bs:List PV} {off:Nat} {c:PV} (h:off < bs.length):splice bs off [c]=bs.set off c:=by
 unfold splice
 rw [List.set_eq_take_append_cons_drop,if_pos h];simp
theorem PWops.stMB {α:Type} {id off:Nat} {f:α→PV} {l:List α} {v:α} {x y:Operand} {t:TypeId} {ti:TyI} (hg:pguard ops σ o=some true) (hd:o.dst=none) (hop:o.op = .store t x y) (hx:pev σ x = .ptr id off) (hn:(ownPV σ y).ownB=false) (ht:T.at t=some ti) (hb:σ.freeB (base+i)=true) (hbs:(σ.only (ok i)).b id=some (l.map f)) (hp:pcells (pev σ y)=some [f v]) (hs:ti.size=1) (hl:off < l.length)
  (kn:PWops P T ops base ok rest K (σ.setb id ((l.set off v).map f))):PWops P T ops base ok ((i,o) :: rest) K σ:=by
 refine PWops.stB hg hd hop hx hn hp ht hb hbs ⟨by rw [hs];rfl,by simp;omega⟩ ?_ kn
 rw [splice_one (by simpa using hl),set_map]
theorem PWops.slcP {d id o' n k h l:Nat} {e:TypeId} {ag:Bool} {x:Operand} {lo hi:Option Operand} {t:TypeId} {ti:TyI} (hg:pguard ops σ o=some true) (hd:o.dst=some d) (hop:o.op = .slice t x lo hi none) (hx:pev σ x = .ptr id o') (ht:T.at t=some ti) (hk:ti.kind = .arr n e k ag) (hb:σ.freeB (base+i)=true) (hh:pbound n n (hi.map (pev σ))=some h) (hlo:pbound 0 h (lo.map (pev σ))=some l) (hn:n≤1000000000)
  (kn:PWops P T ops base ok rest K (σ.put d (.msl id (o' + l * k) (h - l) k))):PWops P T ops base ok ((i,o) :: rest) K σ:=by
 refine pres_pval hg hd ?_ hb kn
 have e1:∀x:Operand,pev (σ.only (ok i)) x=pev σ x:=fun x=>pev_only ..
 have e2:∀x:Option Operand,x.map (pev (σ.only (ok i)))=x.map (pev σ):=fun x=>by cases x<;>simp [e1]
 simp [hop,presE,pvalA,pval,pev_only,e2,hx,ht,hk,pslice,hh,hlo,hn]
end
section
open Go.RowKit
theorem Flat.lowF {p:PV} (h:Flat p):Low p:=by
 induction h with
 |undef=>exact .undef
 |val v=>exact .val v
 |nilsl=>exact .nilsl
 |agg cs h ih=>exact .agg cs ih
 |tup cs h ih=>exact .tup cs ih
end
section
open Go.RowKit
variable {P:Program} {T:Tab} {σ:PS} {o:Oper} {i base:Nat} {ops:Array Oper} {ok:Nat→Nat→Bool} {rest:List (Nat×Oper)} {K:PS→Prop}
theorem PWops.valE {d:Nat} {p q:PV} (hg:pguard ops σ o=some true) (hd:o.dst=some d) (hE:feff (presE T (headB ops o.dst) (base+i) (σ.only (ok i)) o.op)=some p) (e:p=q) (hb:σ.freeB (base+i)=true) (k:PWops P T ops base ok rest K (σ.put d q)):PWops P T ops base ok ((i,o) :: rest) K σ:=
 PWops.val hg hd (by rw [hE,e]) hb k
theorem PWops.cvI {d:Nat} {z:Int} {x:Operand} {ts td:TypeId} (hop:o.op = .convert ts td x) (hg:pguard ops σ o=some true) (hd:o.dst=some d) (hE:feff (presE T (headB ops o.dst) (base+i) (σ.only (ok i)) o.op)=some (.val (.int .i64 (IntKind.i64.wrap z)))) (h1 : -9223372036854775808≤z) (h2:z≤9223372036854775807) (hb:σ.freeB (base+i)=true) (k:PWops P T ops base ok rest K (σ.put d (.val (.int .i64 z)))):PWops P T ops base ok ((i,o) :: rest) K σ:=
 PWops.valE hg hd hE (by rw [wrap64_id h1 h2]) hb k
end
section
open Go.RowKit
structure Hold2 (q:Prop):Prop where
 out:q
theorem ops0 {p q:Prop} (k:q) (h:Hold2 q→p:=by intro hHold;((with_reducible refine PWops.idd ?_);first|(first|refine PWops.cvI rfl rfl rfl rfl (by (first|omega|(dsimp only;omega))) (by (first|omega|(dsimp only;omega))) rfl ?_|refine PWops.stepA rfl ?_|refine PWops.doneI rfl ?_|refine PWops.boolK true rfl rfl rfl rfl (by (first|rfl|assumption|(simp only [decide_eq_true_eq,decide_eq_false_iff_not,bne_iff_ne,beq_iff_eq,beq_eq_false_iff_ne,bne_eq_false_iff_eq,ne_eq];omega))) rfl ?_|refine PWops.boolK false rfl rfl rfl rfl (by (first|rfl|assumption|(simp only [decide_eq_true_eq,decide_eq_false_iff_not,bne_iff_ne,beq_iff_eq,beq_eq_false_iff_ne,bne_eq_false_iff_eq,ne_eq];omega))) rfl ?_|refine PWops.fitsK rfl rfl rfl rfl (by (first|omega|(dsimp only;omega))) (by (first|omega|(dsimp only;omega))) rfl ?_|refine PWops.remK rfl rfl rfl rfl (by (first|omega|(dsimp only;omega))) rfl ?_|refine PWops.quoK rfl rfl rfl rfl (by (first|omega|(dsimp only;omega))) rfl ?_|refine PWops.app rfl rfl rfl rfl rfl rfl rfl rfl (by (first|omega|(dsimp only;omega))) (by (first|omega|(dsimp only;omega))) (by first|rfl|exact secL_one _|exact putL_one _|exact one_pint _|exact one_pstr _|exact one_pbyte _|exact one_pattrs _) ?_|refine PWops.app0 rfl rfl rfl rfl rfl rfl rfl rfl (by (first|omega|(dsimp only;omega))) (by (first|omega|(dsimp only;omega))) (by first|rfl|exact secL_one _|exact putL_one _|exact one_pint _|exact one_pstr _|exact one_pbyte _|exact one_pattrs _) ?_|refine PWops.idx1 rfl rfl rfl rfl rfl rfl rfl rfl (by (first|omega|(dsimp only;omega))) ?_|refine PWops.idx rfl rfl rfl rfl rfl rfl rfl rfl (by (first|omega|(dsimp only;omega))) ?_|refine PWops.ld rfl rfl rfl rfl rfl rfl rfl (by assumption) rfl ?_|refine PWops.ldA rfl rfl rfl rfl rfl rfl (by (first|omega|(dsimp only;omega))) (by assumption) ?_|refine PWops.str rfl rfl rfl rfl rfl rfl rfl rfl rfl rfl rfl ?_)|(first|refine PWops.arU rfl rfl rfl rfl rfl rfl ?_|refine PWops.boxA rfl rfl rfl rfl rfl (by (first|rfl|exact secL_one _|exact dcellL_one _|exact putL_one _|exact one_map (fun _=>rfl) _)) (by (first|rfl|exact secL_bare _|exact dcellL_bare _|exact putL_bare _|exact bare_map (fun _=>rfl) _)) ?_|refine PWops.litA rfl rfl rfl rfl rfl rfl rfl (by (first|rfl|exact secL_len _|exact dcellL_len _|exact putL_len _|exact len_map (by assumption)|exact len_map rfl)) rfl rfl rfl (by (first|rfl|exact secL_one _|exact dcellL_one _|exact putL_one _|exact one_map (fun _=>rfl) _)) (by (first|rfl|exact secL_bare _|exact dcellL_bare _|exact putL_bare _|exact bare_map (fun _=>rfl) _)) ?_|refine PWops.shlK rfl rfl rfl rfl rfl rfl (by (first|omega|(dsimp only;omega)|decide)) ?_|refine PWops.shrK rfl rfl rfl rfl rfl rfl (by (first|omega|(dsimp only;omega)|decide)) ?_|refine PWops.ldBC rfl rfl rfl rfl rfl rfl rfl rfl (by (first|exact secL_len|exact dcellL_len|exact putL_len|(intro;rfl))) (by (first|omega|(dsimp only;omega))) (by (first|rfl|exact dcellL_64 _)) rfl ?_|refine PWops.ldRB rfl rfl rfl rfl rfl rfl (by (first|exact secL_len|exact dcellL_len|exact putL_len|(intro;rfl))) (by (first|omega|(dsimp only;omega))) (by (first|exact secL_bare|exact dcellL_bare|exact putL_bare|(intro;rfl))) ?_|refine PWops.ldSec rfl rfl rfl rfl rfl rfl rfl (by first|with_reducible rfl|with_reducible exact dC_flat _) (by rfl) (by (first|omega|(dsimp only;omega))) ?_|refine PWops.ldBR rfl rfl rfl rfl rfl rfl rfl (by (first|exact secL_len|exact dcellL_len|exact putL_len|(intro;rfl))) (by (first|omega|(dsimp only;omega))) (by (first|exact secL_bare _|exact dcellL_bare _|exact putL_bare _|rfl)) ?_|refine PWops.lkp rfl rfl rfl rfl rfl rfl rfl rfl rfl rfl rfl (by assumption) ?_|refine PWops.ldAll rfl rfl rfl rfl rfl rfl rfl (by (first|rfl|exact secL_len _|exact dcellL_len _|exact putL_len _|exact len_map (by assumption)|exact len_map rfl)) (by (first|rfl|exact secL_bare _|exact dcellL_bare _|exact putL_bare _|exact bare_map (fun _=>rfl) _)) ?_|refine PWops.stAll rfl rfl rfl rfl rfl rfl rfl rfl rfl (by (first|rfl|exact secL_len _|exact dcellL_len _|exact putL_len _|exact len_map (by assumption)|exact len_map rfl)) (by (first|rfl|exact secL_len _|exact dcellL_len _|exact putL_len _|exact len_map (by assumption)|exact len_map rfl)) (by (first|rfl|exact secL_one _|exact dcellL_one _|exact putL_one _|exact one_map (fun _=>rfl) _)) (by (first|rfl|exact secL_bare _|exact dcellL_bare _|exact putL_bare _|exact bare_map (fun _=>rfl) _)) ?_|refine PWops.idxM rfl rfl rfl rfl rfl rfl rfl rfl (by (first|omega|(dsimp only;omega))) ?_|refine PWops.idxP1 rfl rfl rfl rfl rfl rfl rfl rfl (by (first|omega|(dsimp only;omega))) ?_|refine PWops.idxP rfl rfl rfl rfl rfl rfl rfl rfl (by (first|omega|(dsimp only;omega))) ?_|(refine PWops.call rfl rfl rfl (by assumption) ?_)|(refine PWops.callR rfl rfl (by assumption) (by (first|exact trivial|exact ⟨⟨rfl,rfl⟩,trivial⟩|exact ⟨⟨rfl,rfl⟩,⟨rfl,rfl⟩,trivial⟩|exact ⟨⟨rfl,rfl⟩,⟨rfl,rfl⟩,⟨rfl,rfl⟩,trivial⟩|exact ⟨⟨rfl,rfl⟩,⟨rfl,rfl⟩,⟨rfl,rfl⟩,⟨rfl,rfl⟩,trivial⟩|exact ⟨⟨rfl,rfl⟩,⟨rfl,rfl⟩,⟨rfl,rfl⟩,⟨rfl,rfl⟩,⟨rfl,rfl⟩,trivial⟩|exact ⟨⟨rfl,rfl⟩,⟨rfl,rfl⟩,⟨rfl,rfl⟩,⟨rfl,rfl⟩,⟨rfl,rfl⟩,⟨rfl,rfl⟩,trivial⟩|exact ⟨⟨rfl,rfl⟩,⟨rfl,rfl⟩,⟨rfl,rfl⟩,⟨rfl,rfl⟩,⟨rfl,rfl⟩,⟨rfl,rfl⟩,⟨rfl,rfl⟩,trivial⟩|exact ⟨⟨rfl,rfl⟩,⟨rfl,rfl⟩,⟨rfl,rfl⟩,⟨rfl,rfl⟩,⟨rfl,rfl⟩,⟨rfl,rfl⟩,⟨rfl,rfl⟩,⟨rfl,rfl⟩,trivial⟩)) (by (first|exact trivial|exact ⟨⟨rfl,rfl⟩,trivial⟩|exact ⟨⟨rfl,rfl⟩,⟨rfl,rfl⟩,trivial⟩|exact ⟨⟨rfl,rfl⟩,⟨rfl,rfl⟩,⟨rfl,rfl⟩,trivial⟩|exact ⟨⟨rfl,rfl⟩,⟨rfl,rfl⟩,⟨rfl,rfl⟩,⟨rfl,rfl⟩,trivial⟩|exact ⟨⟨rfl,rfl⟩,⟨rfl,rfl⟩,⟨rfl,rfl⟩,⟨rfl,rfl⟩,⟨rfl,rfl⟩,trivial⟩|exact ⟨⟨rfl,rfl⟩,⟨rfl,rfl⟩,⟨rfl,rfl⟩,⟨rfl,rfl⟩,⟨rfl,rfl⟩,⟨rfl,rfl⟩,trivial⟩|exact ⟨⟨rfl,rfl⟩,⟨rfl,rfl⟩,⟨rfl,rfl⟩,⟨rfl,rfl⟩,⟨rfl,rfl⟩,⟨rfl,rfl⟩,⟨rfl,rfl⟩,trivial⟩|exact ⟨⟨rfl,rfl⟩,⟨rfl,rfl⟩,⟨rfl,rfl⟩,⟨rfl,rfl⟩,⟨rfl,rfl⟩,⟨rfl,rfl⟩,⟨rfl,rfl⟩,⟨rfl,rfl⟩,trivial⟩)) rfl (by first|exact .inl rfl|exact .inr (fun _ _=>rfl)) ?_)|(refine PWops.callH rfl rfl (by assumption) (by (first|exact trivial|exact ⟨⟨rfl,rfl⟩,trivial⟩|exact ⟨⟨rfl,rfl⟩,⟨rfl,rfl⟩,trivial⟩|exact ⟨⟨rfl,rfl⟩,⟨rfl,rfl⟩,⟨rfl,rfl⟩,trivial⟩|exact ⟨⟨rfl,rfl⟩,⟨rfl,rfl⟩,⟨rfl,rfl⟩,⟨rfl,rfl⟩,trivial⟩|exact ⟨⟨rfl,rfl⟩,⟨rfl,rfl⟩,⟨rfl,rfl⟩,⟨rfl,rfl⟩,⟨rfl,rfl⟩,trivial⟩|exact ⟨⟨rfl,rfl⟩,⟨rfl,rfl⟩,⟨rfl,rfl⟩,⟨rfl,rfl⟩,⟨rfl,rfl⟩,⟨rfl,rfl⟩,trivial⟩|exact ⟨⟨rfl,rfl⟩,⟨rfl,rfl⟩,⟨rfl,rfl⟩,⟨rfl,rfl⟩,⟨rfl,rfl⟩,⟨rfl,rfl⟩,⟨rfl,rfl⟩,trivial⟩|exact ⟨⟨rfl,rfl⟩,⟨rfl,rfl⟩,⟨rfl,rfl⟩,⟨rfl,rfl⟩,⟨rfl,rfl⟩,⟨rfl,rfl⟩,⟨rfl,rfl⟩,⟨rfl,rfl⟩,trivial⟩)) (by (first|exact trivial|exact ⟨⟨rfl,rfl⟩,trivial⟩|exact ⟨⟨rfl,rfl⟩,⟨rfl,rfl⟩,trivial⟩|exact ⟨⟨rfl,rfl⟩,⟨rfl,rfl⟩,⟨rfl,rfl⟩,trivial⟩|exact ⟨⟨rfl,rfl⟩,⟨rfl,rfl⟩,⟨rfl,rfl⟩,⟨rfl,rfl⟩,trivial⟩|exact ⟨⟨rfl,rfl⟩,⟨rfl,rfl⟩,⟨rfl,rfl⟩,⟨rfl,rfl⟩,⟨rfl,rfl⟩,trivial⟩|exact ⟨⟨rfl,rfl⟩,⟨rfl,rfl⟩,⟨rfl,rfl⟩,⟨rfl,rfl⟩,⟨rfl,rfl⟩,⟨rfl,rfl⟩,trivial⟩|exact ⟨⟨rfl,rfl⟩,⟨rfl,rfl⟩,⟨rfl,rfl⟩,⟨rfl,rfl⟩,⟨rfl,rfl⟩,⟨rfl,rfl⟩,⟨rfl,rfl⟩,trivial⟩|exact ⟨⟨rfl,rfl⟩,⟨rfl,rfl⟩,⟨rfl,rfl⟩,⟨rfl,rfl⟩,⟨rfl,rfl⟩,⟨rfl,rfl⟩,⟨rfl,rfl⟩,⟨rfl,rfl⟩,trivial⟩)) rfl (by first|exact .inl rfl|exact .inr (fun _ _=>rfl)) ?_)|refine PWops.idxZ1 rfl rfl rfl rfl rfl rfl rfl rfl (by (first|omega|(dsimp only;omega))) ?_|refine PWops.idxZ rfl rfl rfl rfl rfl rfl rfl rfl (by (first|omega|(dsimp only;omega))) ?_|refine PWops.ld rfl rfl rfl rfl rfl rfl rfl rfl rfl ?_|refine PWops.slcL rfl rfl rfl rfl rfl rfl rfl rfl (by (first|omega|(dsimp only;omega))) ?_|refine PWops.slcH rfl rfl rfl rfl rfl rfl rfl rfl (by (first|omega|(dsimp only;omega))) ?_|refine PWops.slcRL rfl rfl rfl rfl rfl rfl rfl rfl (by intro;rfl) (by (first|omega|(dsimp only;omega))) ?_|refine PWops.slcRH rfl rfl rfl rfl rfl rfl rfl rfl (by intro;rfl) (by (first|omega|(dsimp only;omega))) ?_|refine PWops.slcM rfl rfl rfl rfl rfl rfl rfl rfl rfl (by (first|omega|(dsimp only;omega))) ?_|refine PWops.ldM rfl rfl rfl rfl rfl rfl rfl (by (first|omega|(dsimp only;omega))) rfl ?_|refine PWops.ldR rfl rfl rfl rfl rfl rfl rfl (by (first|exact secL_len|exact dcellL_len|exact putL_len|(intro;rfl))) (by (first|omega|(dsimp only;omega))) rfl rfl ?_|refine PWops.ldRA rfl rfl rfl rfl rfl rfl (by intro;rfl) (by (first|omega|(dsimp only;omega))) rfl ?_|refine PWops.slcP rfl rfl rfl rfl rfl rfl rfl rfl rfl (by decide) ?_|refine PWops.idxE1 rfl rfl rfl rfl rfl rfl rfl rfl (by (first|omega|(dsimp only;omega))) ?_|refine PWops.ldG rfl rfl rfl rfl rfl rfl (by (first|rfl|exact secL_len _|exact dcellL_len _|exact putL_len _|exact len_map (by assumption)|exact len_map rfl)) (by (first|rfl|exact secL_bare _|exact dcellL_bare _|exact putL_bare _|exact bare_map (fun _=>rfl) _)) ?_|refine PWops.ldMB rfl rfl rfl rfl rfl rfl rfl rfl (by (first|omega|(dsimp only;omega))) rfl rfl ?_|refine PWops.stMB rfl rfl rfl rfl rfl rfl rfl rfl rfl rfl (by (first|omega|(dsimp only;omega))) ?_|refine PWops.idxV rfl rfl rfl rfl rfl rfl rfl rfl (by (first|omega|(dsimp only;omega))) rfl ?_));exact hHold.out):p:=h ⟨k⟩
theorem jw0 {p q:Prop} (k:q) (h:Hold2 q→p:=by intro hHold;((repeat (first|(with_reducible first|refine thenJ ?_|refine thenJ_ret ?_|refine thenJ_exit ?_|refine blockJ ?_|refine blockJ_exit ?_|refine blockJ_ret ?_|refine blockJ_other (by decide) ?_|refine loopJ_exit ?_|refine loopJ_ret ?_|refine PWJ.seq ?_|refine PWJ.block ?_|refine PWJ.skip ?_|refine PWJ.ret ?_|refine PWJ.exit ?_|refine PWJ.condT rfl ?_|refine PWJ.condF rfl ?_)|refine PWJ.condT rfl ?_|refine PWJ.condF rfl ?_)));exact hHold.out):p:=h ⟨k⟩
theorem li0 {p:Prop} (h:p:=by (repeat (first|exact li_nil|exact lb_nil|refine lb_cons ?_ ?_|refine li_cons ?_ ?_|exact dB_lowI (by first|simp [ResIds]|simp [ResIds,dG,dMs,jG]|simp [ResIds,dG,dMs,crG,crM]|simp [ResIds,dG,dMs]) (by first|simp [ResIds]|simp [ResIds,dG,dMs,jG]|simp [ResIds,dG,dMs,crG,crM]|simp [ResIds,dG,dMs]) _|exact li_low (dC_low _)|exact LowI.ptr _ _ (by first|simp [ResIds]|simp [ResIds,dG,dMs,jG]|simp [ResIds,dG,dMs,crG,crM]|simp [ResIds,dG,dMs])|exact LowI.mref _ (by first|simp [ResIds]|simp [ResIds,dG,dMs,jG]|simp [ResIds,dG,dMs,crG,crM]|simp [ResIds,dG,dMs])|exact LowI.msl _ _ _ _ (by first|simp [ResIds]|simp [ResIds,dG,dMs,jG]|simp [ResIds,dG,dMs,crG,crM]|simp [ResIds,dG,dMs])|exact LowI.val _|exact LowI.nilsl|exact Low.lowI (low_pputs _)|exact Low.lowI (psec_low _)|exact li_low (secL_low _)|exact li_low (by assumption)|refine LowI.agg _ ?_|refine LowI.fn _ _ ?_|refine LowI.tup _ ?_|refine LowI.sl _ _ _ _ ?_))):p:=h
theorem rq0 {p:Prop} (h:p:=by (first|exact .inl (.ptr _ _ rfl)|exact .inl (.msl _ _ _ _ rfl)|exact .inl (.mref _ rfl)|exact .inl (.low _ (by exact lw))|exact .inr (.inl (.low _ (by exact lw)))|exact .inr (.inr ⟨_,_,rfl,rfl⟩))):p:=h
theorem rl0 {p:Prop} (h:p:=by (first|exact RenQL.low (by first|assumption|exact hlow _|exact hlow _ _|exact low_map (fun _=>Low.val _) _)|exact RenQL.lowE (by assumption) (low_map (fun _=>Low.val _) _)|((repeat (refine RenQL.cons (by exact rq0) ?_));exact RenQL.nil))):p:=h
theorem lt0 {p:Prop} (h:p:=by (repeat (first|exact lowT_bot|refine lowT_put ?_ (by first|exact .ptr _ _ rfl|exact .mref _ rfl|exact Low.lowI (by exact lw))|refine lowT_setb ?_|refine lowT_setm ?_))):p:=h
theorem ow0 {p:Prop} (h:p:=by (repeat (first|exact ownsS_bot|refine OwnsS.put ?_ rfl|refine OwnsS.setb ?_ (by first|exact ownsX_nil|exact ownsX_cons (ownsX_no rfl) ownsX_nil|exact ownsX_cons (ownsX_no rfl) (ownsX_cons (ownsX_no rfl) ownsX_nil)|assumption)))):p:=h
theorem kn0 {p:Prop} (h:p:=by (repeat (first|exact kn_bot|refine kn_put ?_|refine kn_setb ?_|refine kn_setm ?_))):p:=h
theorem sbF {p:Prop} (h:p:=by (refine Sub.same ?_;exact sbrF)):p:=h
theorem sbrF {p:Prop} (h:p:=by (repeat (first|exact SubR.bot|((with_reducible refine SubR.isp ?_);refine SubR.put ?_ (by exact rq0))|((with_reducible refine SubR.isb ?_);refine SubR.setb ?_ rfl rfl (by first|exact rq_fn1 rfl|exact rl0))))):p:=h
theorem hok0 {p:Prop} (h:p:=by (refine ⟨by exact li0,by exact li0,by first|exact lm_nil|exact lm_cons (dM_low _) lm_nil,?_,by exact li0,by first|exact lm_nil|exact lm_cons (dM_low _) lm_nil,by first|simp|simp [jG,dG],by first|simp|simp [dMs]⟩;exact li0)):p:=h
theorem ren0 {p:Prop} (h:p:=by (repeat (first|exact RenL.nil|exact RenB.nil|exact RenMs.nil|exact RenMs.cons _ _ _ _ _ (RenM.low (dM_low _)) RenMs.nil|refine RenB.cons _ _ _ _ _ ?_ ?_|exact RenL.low (dC_low _)|refine RenL.cons ?_ ?_|exact Ren.ptr _ _ (by first|simp [ResIds]|simp [ResIds,dG,dMs,jG]|simp [ResIds,dG,dMs,crG,crM]|simp [ResIds,dG,dMs])|exact Ren.mref _ (by first|simp [ResIds]|simp [ResIds,dG,dMs,jG]|simp [ResIds,dG,dMs,crG,crM]|simp [ResIds,dG,dMs])|exact Ren.msl _ _ _ _ (by first|simp [ResIds]|simp [ResIds,dG,dMs,jG]|simp [ResIds,dG,dMs,crG,crM]|simp [ResIds,dG,dMs])|exact Ren.low _ (Low.val _)|exact Ren.low _ (low_pputs _)|exact Ren.low _ (psec_low _)|exact RenL.low (by assumption)|refine ren_agg ?_|refine ren_fn ?_|refine ren_sl ?_))):p:=h
theorem sbr0 {p:Prop} (h:p:=by (repeat (first|exact SubR.bot|((with_reducible refine SubR.isp ?_);refine SubR.put ?_ (by exact rq0))|((with_reducible refine SubR.isb ?_);refine SubR.setb ?_ rfl rfl (by exact rl0))|((with_reducible refine SubR.ism ?_);refine SubR.setm ?_ rfl rfl (by (first|exact ⟨rfl,rfl,rfl,rfl,rfl⟩|exact RenM.low (by first|assumption|exact hlowm _|exact hlowm _ _))))))):p:=h
structure Hold (q:Prop):Prop where
 out:q
theorem wk {p q:Prop} (k:q) (h:Hold q→p:=by intro hHold;(repeat (first|(with_reducible first|refine PW.seq ?_|refine PW.block ?_|refine PW.skip ?_|refine PW.exit ?_|refine PW.ret ?_|refine thenP ?_|refine thenP_exit ?_|refine thenP_ret ?_|refine blockP ?_|refine blockP_exit ?_|refine blockP_ret ?_|refine loopP_exit ?_|refine loopP_ret ?_|refine loopU_exit ?_|refine loopU_ret ?_)|((with_reducible refine PWops.idd ?_);first|(first|refine PWops.cvI rfl rfl rfl rfl (by (first|omega|(dsimp only;omega))) (by (first|omega|(dsimp only;omega))) rfl ?_|refine PWops.stepA rfl ?_|refine PWops.doneI rfl ?_|refine PWops.boolK true rfl rfl rfl rfl (by (first|rfl|assumption|(simp only [decide_eq_true_eq,decide_eq_false_iff_not,bne_iff_ne,beq_iff_eq,beq_eq_false_iff_ne,bne_eq_false_iff_eq,ne_eq];omega))) rfl ?_|refine PWops.boolK false rfl rfl rfl rfl (by (first|rfl|assumption|(simp only [decide_eq_true_eq,decide_eq_false_iff_not,bne_iff_ne,beq_iff_eq,beq_eq_false_iff_ne,bne_eq_false_iff_eq,ne_eq];omega))) rfl ?_|refine PWops.fitsK rfl rfl rfl rfl (by (first|omega|(dsimp only;omega))) (by (first|omega|(dsimp only;omega))) rfl ?_|refine PWops.remK rfl rfl rfl rfl (by (first|omega|(dsimp only;omega))) rfl ?_|refine PWops.quoK rfl rfl rfl rfl (by (first|omega|(dsimp only;omega))) rfl ?_|refine PWops.app rfl rfl rfl rfl rfl rfl rfl rfl (by (first|omega|(dsimp only;omega))) (by (first|omega|(dsimp only;omega))) (by first|rfl|exact secL_one _|exact putL_one _|exact one_pint _|exact one_pstr _|exact one_pbyte _|exact one_pattrs _) ?_|refine PWops.app0 rfl rfl rfl rfl rfl rfl rfl rfl (by (first|omega|(dsimp only;omega))) (by (first|omega|(dsimp only;omega))) (by first|rfl|exact secL_one _|exact putL_one _|exact one_pint _|exact one_pstr _|exact one_pbyte _|exact one_pattrs _) ?_|refine PWops.idx1 rfl rfl rfl rfl rfl rfl rfl rfl (by (first|omega|(dsimp only;omega))) ?_|refine PWops.idx rfl rfl rfl rfl rfl rfl rfl rfl (by (first|omega|(dsimp only;omega))) ?_|refine PWops.ld rfl rfl rfl rfl rfl rfl rfl (by assumption) rfl ?_|refine PWops.ldA rfl rfl rfl rfl rfl rfl (by (first|omega|(dsimp only;omega))) (by assumption) ?_|refine PWops.str rfl rfl rfl rfl rfl rfl rfl rfl rfl rfl rfl ?_)|(first|refine PWops.arU rfl rfl rfl rfl rfl rfl ?_|refine PWops.boxA rfl rfl rfl rfl rfl (by (first|rfl|exact secL_one _|exact dcellL_one _|exact putL_one _|exact one_map (fun _=>rfl) _)) (by (first|rfl|exact secL_bare _|exact dcellL_bare _|exact putL_bare _|exact bare_map (fun _=>rfl) _)) ?_|refine PWops.litA rfl rfl rfl rfl rfl rfl rfl (by (first|rfl|exact secL_len _|exact dcellL_len _|exact putL_len _|exact len_map (by assumption)|exact len_map rfl)) rfl rfl rfl (by (first|rfl|exact secL_one _|exact dcellL_one _|exact putL_one _|exact one_map (fun _=>rfl) _)) (by (first|rfl|exact secL_bare _|exact dcellL_bare _|exact putL_bare _|exact bare_map (fun _=>rfl) _)) ?_|refine PWops.shlK rfl rfl rfl rfl rfl rfl (by (first|omega|(dsimp only;omega)|decide)) ?_|refine PWops.shrK rfl rfl rfl rfl rfl rfl (by (first|omega|(dsimp only;omega)|decide)) ?_|refine PWops.ldBC rfl rfl rfl rfl rfl rfl rfl rfl (by (first|exact secL_len|exact dcellL_len|exact putL_len|(intro;rfl))) (by (first|omega|(dsimp only;omega))) (by (first|rfl|exact dcellL_64 _)) rfl ?_|refine PWops.ldRB rfl rfl rfl rfl rfl rfl (by (first|exact secL_len|exact dcellL_len|exact putL_len|(intro;rfl))) (by (first|omega|(dsimp only;omega))) (by (first|exact secL_bare|exact dcellL_bare|exact putL_bare|(intro;rfl))) ?_|refine PWops.ldSec rfl rfl rfl rfl rfl rfl rfl (by first|with_reducible rfl|with_reducible exact dC_flat _) (by rfl) (by (first|omega|(dsimp only;omega))) ?_|refine PWops.ldBR rfl rfl rfl rfl rfl rfl rfl (by (first|exact secL_len|exact dcellL_len|exact putL_len|(intro;rfl))) (by (first|omega|(dsimp only;omega))) (by (first|exact secL_bare _|exact dcellL_bare _|exact putL_bare _|rfl)) ?_|refine PWops.lkp rfl rfl rfl rfl rfl rfl rfl rfl rfl rfl rfl (by assumption) ?_|refine PWops.ldAll rfl rfl rfl rfl rfl rfl rfl (by (first|rfl|exact secL_len _|exact dcellL_len _|exact putL_len _|exact len_map (by assumption)|exact len_map rfl)) (by (first|rfl|exact secL_bare _|exact dcellL_bare _|exact putL_bare _|exact bare_map (fun _=>rfl) _)) ?_|refine PWops.stAll rfl rfl rfl rfl rfl rfl rfl rfl rfl (by (first|rfl|exact secL_len _|exact dcellL_len _|exact putL_len _|exact len_map (by assumption)|exact len_map rfl)) (by (first|rfl|exact secL_len _|exact dcellL_len _|exact putL_len _|exact len_map (by assumption)|exact len_map rfl)) (by (first|rfl|exact secL_one _|exact dcellL_one _|exact putL_one _|exact one_map (fun _=>rfl) _)) (by (first|rfl|exact secL_bare _|exact dcellL_bare _|exact putL_bare _|exact bare_map (fun _=>rfl) _)) ?_|refine PWops.idxM rfl rfl rfl rfl rfl rfl rfl rfl (by (first|omega|(dsimp only;omega))) ?_|refine PWops.idxP1 rfl rfl rfl rfl rfl rfl rfl rfl (by (first|omega|(dsimp only;omega))) ?_|refine PWops.idxP rfl rfl rfl rfl rfl rfl rfl rfl (by (first|omega|(dsimp only;omega))) ?_|(refine PWops.call rfl rfl rfl (by assumption) ?_)|(refine PWops.callR rfl rfl (by assumption) (by (first|exact trivial|exact ⟨⟨rfl,rfl⟩,trivial⟩|exact ⟨⟨rfl,rfl⟩,⟨rfl,rfl⟩,trivial⟩|exact ⟨⟨rfl,rfl⟩,⟨rfl,rfl⟩,⟨rfl,rfl⟩,trivial⟩|exact ⟨⟨rfl,rfl⟩,⟨rfl,rfl⟩,⟨rfl,rfl⟩,⟨rfl,rfl⟩,trivial⟩|exact ⟨⟨rfl,rfl⟩,⟨rfl,rfl⟩,⟨rfl,rfl⟩,⟨rfl,rfl⟩,⟨rfl,rfl⟩,trivial⟩|exact ⟨⟨rfl,rfl⟩,⟨rfl,rfl⟩,⟨rfl,rfl⟩,⟨rfl,rfl⟩,⟨rfl,rfl⟩,⟨rfl,rfl⟩,trivial⟩|exact ⟨⟨rfl,rfl⟩,⟨rfl,rfl⟩,⟨rfl,rfl⟩,⟨rfl,rfl⟩,⟨rfl,rfl⟩,⟨rfl,rfl⟩,⟨rfl,rfl⟩,trivial⟩|exact ⟨⟨rfl,rfl⟩,⟨rfl,rfl⟩,⟨rfl,rfl⟩,⟨rfl,rfl⟩,⟨rfl,rfl⟩,⟨rfl,rfl⟩,⟨rfl,rfl⟩,⟨rfl,rfl⟩,trivial⟩)) (by (first|exact trivial|exact ⟨⟨rfl,rfl⟩,trivial⟩|exact ⟨⟨rfl,rfl⟩,⟨rfl,rfl⟩,trivial⟩|exact ⟨⟨rfl,rfl⟩,⟨rfl,rfl⟩,⟨rfl,rfl⟩,trivial⟩|exact ⟨⟨rfl,rfl⟩,⟨rfl,rfl⟩,⟨rfl,rfl⟩,⟨rfl,rfl⟩,trivial⟩|exact ⟨⟨rfl,rfl⟩,⟨rfl,rfl⟩,⟨rfl,rfl⟩,⟨rfl,rfl⟩,⟨rfl,rfl⟩,trivial⟩|exact ⟨⟨rfl,rfl⟩,⟨rfl,rfl⟩,⟨rfl,rfl⟩,⟨rfl,rfl⟩,⟨rfl,rfl⟩,⟨rfl,rfl⟩,trivial⟩|exact ⟨⟨rfl,rfl⟩,⟨rfl,rfl⟩,⟨rfl,rfl⟩,⟨rfl,rfl⟩,⟨rfl,rfl⟩,⟨rfl,rfl⟩,⟨rfl,rfl⟩,trivial⟩|exact ⟨⟨rfl,rfl⟩,⟨rfl,rfl⟩,⟨rfl,rfl⟩,⟨rfl,rfl⟩,⟨rfl,rfl⟩,⟨rfl,rfl⟩,⟨rfl,rfl⟩,⟨rfl,rfl⟩,trivial⟩)) rfl (by first|exact .inl rfl|exact .inr (fun _ _=>rfl)) ?_)|(refine PWops.callH rfl rfl (by assumption) (by (first|exact trivial|exact ⟨⟨rfl,rfl⟩,trivial⟩|exact ⟨⟨rfl,rfl⟩,⟨rfl,rfl⟩,trivial⟩|exact ⟨⟨rfl,rfl⟩,⟨rfl,rfl⟩,⟨rfl,rfl⟩,trivial⟩|exact ⟨⟨rfl,rfl⟩,⟨rfl,rfl⟩,⟨rfl,rfl⟩,⟨rfl,rfl⟩,trivial⟩|exact ⟨⟨rfl,rfl⟩,⟨rfl,rfl⟩,⟨rfl,rfl⟩,⟨rfl,rfl⟩,⟨rfl,rfl⟩,trivial⟩|exact ⟨⟨rfl,rfl⟩,⟨rfl,rfl⟩,⟨rfl,rfl⟩,⟨rfl,rfl⟩,⟨rfl,rfl⟩,⟨rfl,rfl⟩,trivial⟩|exact ⟨⟨rfl,rfl⟩,⟨rfl,rfl⟩,⟨rfl,rfl⟩,⟨rfl,rfl⟩,⟨rfl,rfl⟩,⟨rfl,rfl⟩,⟨rfl,rfl⟩,trivial⟩|exact ⟨⟨rfl,rfl⟩,⟨rfl,rfl⟩,⟨rfl,rfl⟩,⟨rfl,rfl⟩,⟨rfl,rfl⟩,⟨rfl,rfl⟩,⟨rfl,rfl⟩,⟨rfl,rfl⟩,trivial⟩)) (by (first|exact trivial|exact ⟨⟨rfl,rfl⟩,trivial⟩|exact ⟨⟨rfl,rfl⟩,⟨rfl,rfl⟩,trivial⟩|exact ⟨⟨rfl,rfl⟩,⟨rfl,rfl⟩,⟨rfl,rfl⟩,trivial⟩|exact ⟨⟨rfl,rfl⟩,⟨rfl,rfl⟩,⟨rfl,rfl⟩,⟨rfl,rfl⟩,trivial⟩|exact ⟨⟨rfl,rfl⟩,⟨rfl,rfl⟩,⟨rfl,rfl⟩,⟨rfl,rfl⟩,⟨rfl,rfl⟩,trivial⟩|exact ⟨⟨rfl,rfl⟩,⟨rfl,rfl⟩,⟨rfl,rfl⟩,⟨rfl,rfl⟩,⟨rfl,rfl⟩,⟨rfl,rfl⟩,trivial⟩|exact ⟨⟨rfl,rfl⟩,⟨rfl,rfl⟩,⟨rfl,rfl⟩,⟨rfl,rfl⟩,⟨rfl,rfl⟩,⟨rfl,rfl⟩,⟨rfl,rfl⟩,trivial⟩|exact ⟨⟨rfl,rfl⟩,⟨rfl,rfl⟩,⟨rfl,rfl⟩,⟨rfl,rfl⟩,⟨rfl,rfl⟩,⟨rfl,rfl⟩,⟨rfl,rfl⟩,⟨rfl,rfl⟩,trivial⟩)) rfl (by first|exact .inl rfl|exact .inr (fun _ _=>rfl)) ?_)|refine PWops.idxZ1 rfl rfl rfl rfl rfl rfl rfl rfl (by (first|omega|(dsimp only;omega))) ?_|refine PWops.idxZ rfl rfl rfl rfl rfl rfl rfl rfl (by (first|omega|(dsimp only;omega))) ?_|refine PWops.ld rfl rfl rfl rfl rfl rfl rfl rfl rfl ?_|refine PWops.slcL rfl rfl rfl rfl rfl rfl rfl rfl (by (first|omega|(dsimp only;omega))) ?_|refine PWops.slcH rfl rfl rfl rfl rfl rfl rfl rfl (by (first|omega|(dsimp only;omega))) ?_|refine PWops.slcRL rfl rfl rfl rfl rfl rfl rfl rfl (by intro;rfl) (by (first|omega|(dsimp only;omega))) ?_|refine PWops.slcRH rfl rfl rfl rfl rfl rfl rfl rfl (by intro;rfl) (by (first|omega|(dsimp only;omega))) ?_|refine PWops.slcM rfl rfl rfl rfl rfl rfl rfl rfl rfl (by (first|omega|(dsimp only;omega))) ?_|refine PWops.ldM rfl rfl rfl rfl rfl rfl rfl (by (first|omega|(dsimp only;omega))) rfl ?_|refine PWops.ldR rfl rfl rfl rfl rfl rfl rfl (by (first|exact secL_len|exact dcellL_len|exact putL_len|(intro;rfl))) (by (first|omega|(dsimp only;omega))) rfl rfl ?_|refine PWops.ldRA rfl rfl rfl rfl rfl rfl (by intro;rfl) (by (first|omega|(dsimp only;omega))) rfl ?_|refine PWops.slcP rfl rfl rfl rfl rfl rfl rfl rfl rfl (by decide) ?_|refine PWops.idxE1 rfl rfl rfl rfl rfl rfl rfl rfl (by (first|omega|(dsimp only;omega))) ?_|refine PWops.ldG rfl rfl rfl rfl rfl rfl (by (first|rfl|exact secL_len _|exact dcellL_len _|exact putL_len _|exact len_map (by assumption)|exact len_map rfl)) (by (first|rfl|exact secL_bare _|exact dcellL_bare _|exact putL_bare _|exact bare_map (fun _=>rfl) _)) ?_|refine PWops.ldMB rfl rfl rfl rfl rfl rfl rfl rfl (by (first|omega|(dsimp only;omega))) rfl rfl ?_|refine PWops.stMB rfl rfl rfl rfl rfl rfl rfl rfl rfl rfl (by (first|omega|(dsimp only;omega))) ?_|refine PWops.idxV rfl rfl rfl rfl rfl rfl rfl rfl (by (first|omega|(dsimp only;omega))) rfl ?_))|(first|((with_reducible refine PW.idd ?_);(first|refine PW.region typeTab_ok (by kernel_rfl) ?_|refine PW.draw typeTab_ok (by kernel_rfl) (by kernel_rfl) (by kernel_rfl) ?_|refine PW.condT rfl ?_|refine PW.condF rfl ?_|refine PW.condTe rfl (by assumption) ?_|refine PW.condFe rfl (by assumption) ?_|refine blockP_other (by decide) ?_))|with_reducible refine blockP_other (by decide) ?_)));exact hHold.out):p:=h ⟨k⟩
theorem wg {p q:Prop} (k:q) (h:Hold q→p:=by intro hHold;(repeat ((with_reducible refine PWops.idd ?_);first|(first|refine PWops.cvI rfl rfl rfl rfl (by (first|omega|(dsimp only;omega))) (by (first|omega|(dsimp only;omega))) rfl ?_|refine PWops.stepA rfl ?_|refine PWops.doneI rfl ?_|refine PWops.boolK true rfl rfl rfl rfl (by (first|rfl|assumption|(simp only [decide_eq_true_eq,decide_eq_false_iff_not,bne_iff_ne,beq_iff_eq,beq_eq_false_iff_ne,bne_eq_false_iff_eq,ne_eq];omega))) rfl ?_|refine PWops.boolK false rfl rfl rfl rfl (by (first|rfl|assumption|(simp only [decide_eq_true_eq,decide_eq_false_iff_not,bne_iff_ne,beq_iff_eq,beq_eq_false_iff_ne,bne_eq_false_iff_eq,ne_eq];omega))) rfl ?_|refine PWops.fitsK rfl rfl rfl rfl (by (first|omega|(dsimp only;omega))) (by (first|omega|(dsimp only;omega))) rfl ?_|refine PWops.remK rfl rfl rfl rfl (by (first|omega|(dsimp only;omega))) rfl ?_|refine PWops.quoK rfl rfl rfl rfl (by (first|omega|(dsimp only;omega))) rfl ?_|refine PWops.app rfl rfl rfl rfl rfl rfl rfl rfl (by (first|omega|(dsimp only;omega))) (by (first|omega|(dsimp only;omega))) (by first|rfl|exact secL_one _|exact putL_one _|exact one_pint _|exact one_pstr _|exact one_pbyte _|exact one_pattrs _) ?_|refine PWops.app0 rfl rfl rfl rfl rfl rfl rfl rfl (by (first|omega|(dsimp only;omega))) (by (first|omega|(dsimp only;omega))) (by first|rfl|exact secL_one _|exact putL_one _|exact one_pint _|exact one_pstr _|exact one_pbyte _|exact one_pattrs _) ?_|refine PWops.idx1 rfl rfl rfl rfl rfl rfl rfl rfl (by (first|omega|(dsimp only;omega))) ?_|refine PWops.idx rfl rfl rfl rfl rfl rfl rfl rfl (by (first|omega|(dsimp only;omega))) ?_|refine PWops.ld rfl rfl rfl rfl rfl rfl rfl (by assumption) rfl ?_|refine PWops.ldA rfl rfl rfl rfl rfl rfl (by (first|omega|(dsimp only;omega))) (by assumption) ?_|refine PWops.str rfl rfl rfl rfl rfl rfl rfl rfl rfl rfl rfl ?_)|(first|refine PWops.arU rfl rfl rfl rfl rfl rfl ?_|refine PWops.boxA rfl rfl rfl rfl rfl (by (first|rfl|exact secL_one _|exact dcellL_one _|exact putL_one _|exact one_map (fun _=>rfl) _)) (by (first|rfl|exact secL_bare _|exact dcellL_bare _|exact putL_bare _|exact bare_map (fun _=>rfl) _)) ?_|refine PWops.litA rfl rfl rfl rfl rfl rfl rfl (by (first|rfl|exact secL_len _|exact dcellL_len _|exact putL_len _|exact len_map (by assumption)|exact len_map rfl)) rfl rfl rfl (by (first|rfl|exact secL_one _|exact dcellL_one _|exact putL_one _|exact one_map (fun _=>rfl) _)) (by (first|rfl|exact secL_bare _|exact dcellL_bare _|exact putL_bare _|exact bare_map (fun _=>rfl) _)) ?_|refine PWops.shlK rfl rfl rfl rfl rfl rfl (by (first|omega|(dsimp only;omega)|decide)) ?_|refine PWops.shrK rfl rfl rfl rfl rfl rfl (by (first|omega|(dsimp only;omega)|decide)) ?_|refine PWops.ldBC rfl rfl rfl rfl rfl rfl rfl rfl (by (first|exact secL_len|exact dcellL_len|exact putL_len|(intro;rfl))) (by (first|omega|(dsimp only;omega))) (by (first|rfl|exact dcellL_64 _)) rfl ?_|refine PWops.ldRB rfl rfl rfl rfl rfl rfl (by (first|exact secL_len|exact dcellL_len|exact putL_len|(intro;rfl))) (by (first|omega|(dsimp only;omega))) (by (first|exact secL_bare|exact dcellL_bare|exact putL_bare|(intro;rfl))) ?_|refine PWops.ldSec rfl rfl rfl rfl rfl rfl rfl (by first|with_reducible rfl|with_reducible exact dC_flat _) (by rfl) (by (first|omega|(dsimp only;omega))) ?_|refine PWops.ldBR rfl rfl rfl rfl rfl rfl rfl (by (first|exact secL_len|exact dcellL_len|exact putL_len|(intro;rfl))) (by (first|omega|(dsimp only;omega))) (by (first|exact secL_bare _|exact dcellL_bare _|exact putL_bare _|rfl)) ?_|refine PWops.lkp rfl rfl rfl rfl rfl rfl rfl rfl rfl rfl rfl (by assumption) ?_|refine PWops.ldAll rfl rfl rfl rfl rfl rfl rfl (by (first|rfl|exact secL_len _|exact dcellL_len _|exact putL_len _|exact len_map (by assumption)|exact len_map rfl)) (by (first|rfl|exact secL_bare _|exact dcellL_bare _|exact putL_bare _|exact bare_map (fun _=>rfl) _)) ?_|refine PWops.stAll rfl rfl rfl rfl rfl rfl rfl rfl rfl (by (first|rfl|exact secL_len _|exact dcellL_len _|exact putL_len _|exact len_map (by assumption)|exact len_map rfl)) (by (first|rfl|exact secL_len _|exact dcellL_len _|exact putL_len _|exact len_map (by assumption)|exact len_map rfl)) (by (first|rfl|exact secL_one _|exact dcellL_one _|exact putL_one _|exact one_map (fun _=>rfl) _)) (by (first|rfl|exact secL_bare _|exact dcellL_bare _|exact putL_bare _|exact bare_map (fun _=>rfl) _)) ?_|refine PWops.idxM rfl rfl rfl rfl rfl rfl rfl rfl (by (first|omega|(dsimp only;omega))) ?_|refine PWops.idxP1 rfl rfl rfl rfl rfl rfl rfl rfl (by (first|omega|(dsimp only;omega))) ?_|refine PWops.idxP rfl rfl rfl rfl rfl rfl rfl rfl (by (first|omega|(dsimp only;omega))) ?_|(refine PWops.call rfl rfl rfl (by assumption) ?_)|(refine PWops.callR rfl rfl (by assumption) (by (first|exact trivial|exact ⟨⟨rfl,rfl⟩,trivial⟩|exact ⟨⟨rfl,rfl⟩,⟨rfl,rfl⟩,trivial⟩|exact ⟨⟨rfl,rfl⟩,⟨rfl,rfl⟩,⟨rfl,rfl⟩,trivial⟩|exact ⟨⟨rfl,rfl⟩,⟨rfl,rfl⟩,⟨rfl,rfl⟩,⟨rfl,rfl⟩,trivial⟩|exact ⟨⟨rfl,rfl⟩,⟨rfl,rfl⟩,⟨rfl,rfl⟩,⟨rfl,rfl⟩,⟨rfl,rfl⟩,trivial⟩|exact ⟨⟨rfl,rfl⟩,⟨rfl,rfl⟩,⟨rfl,rfl⟩,⟨rfl,rfl⟩,⟨rfl,rfl⟩,⟨rfl,rfl⟩,trivial⟩|exact ⟨⟨rfl,rfl⟩,⟨rfl,rfl⟩,⟨rfl,rfl⟩,⟨rfl,rfl⟩,⟨rfl,rfl⟩,⟨rfl,rfl⟩,⟨rfl,rfl⟩,trivial⟩|exact ⟨⟨rfl,rfl⟩,⟨rfl,rfl⟩,⟨rfl,rfl⟩,⟨rfl,rfl⟩,⟨rfl,rfl⟩,⟨rfl,rfl⟩,⟨rfl,rfl⟩,⟨rfl,rfl⟩,trivial⟩)) (by (first|exact trivial|exact ⟨⟨rfl,rfl⟩,trivial⟩|exact ⟨⟨rfl,rfl⟩,⟨rfl,rfl⟩,trivial⟩|exact ⟨⟨rfl,rfl⟩,⟨rfl,rfl⟩,⟨rfl,rfl⟩,trivial⟩|exact ⟨⟨rfl,rfl⟩,⟨rfl,rfl⟩,⟨rfl,rfl⟩,⟨rfl,rfl⟩,trivial⟩|exact ⟨⟨rfl,rfl⟩,⟨rfl,rfl⟩,⟨rfl,rfl⟩,⟨rfl,rfl⟩,⟨rfl,rfl⟩,trivial⟩|exact ⟨⟨rfl,rfl⟩,⟨rfl,rfl⟩,⟨rfl,rfl⟩,⟨rfl,rfl⟩,⟨rfl,rfl⟩,⟨rfl,rfl⟩,trivial⟩|exact ⟨⟨rfl,rfl⟩,⟨rfl,rfl⟩,⟨rfl,rfl⟩,⟨rfl,rfl⟩,⟨rfl,rfl⟩,⟨rfl,rfl⟩,⟨rfl,rfl⟩,trivial⟩|exact ⟨⟨rfl,rfl⟩,⟨rfl,rfl⟩,⟨rfl,rfl⟩,⟨rfl,rfl⟩,⟨rfl,rfl⟩,⟨rfl,rfl⟩,⟨rfl,rfl⟩,⟨rfl,rfl⟩,trivial⟩)) rfl (by first|exact .inl rfl|exact .inr (fun _ _=>rfl)) ?_)|(refine PWops.callH rfl rfl (by assumption) (by (first|exact trivial|exact ⟨⟨rfl,rfl⟩,trivial⟩|exact ⟨⟨rfl,rfl⟩,⟨rfl,rfl⟩,trivial⟩|exact ⟨⟨rfl,rfl⟩,⟨rfl,rfl⟩,⟨rfl,rfl⟩,trivial⟩|exact ⟨⟨rfl,rfl⟩,⟨rfl,rfl⟩,⟨rfl,rfl⟩,⟨rfl,rfl⟩,trivial⟩|exact ⟨⟨rfl,rfl⟩,⟨rfl,rfl⟩,⟨rfl,rfl⟩,⟨rfl,rfl⟩,⟨rfl,rfl⟩,trivial⟩|exact ⟨⟨rfl,rfl⟩,⟨rfl,rfl⟩,⟨rfl,rfl⟩,⟨rfl,rfl⟩,⟨rfl,rfl⟩,⟨rfl,rfl⟩,trivial⟩|exact ⟨⟨rfl,rfl⟩,⟨rfl,rfl⟩,⟨rfl,rfl⟩,⟨rfl,rfl⟩,⟨rfl,rfl⟩,⟨rfl,rfl⟩,⟨rfl,rfl⟩,trivial⟩|exact ⟨⟨rfl,rfl⟩,⟨rfl,rfl⟩,⟨rfl,rfl⟩,⟨rfl,rfl⟩,⟨rfl,rfl⟩,⟨rfl,rfl⟩,⟨rfl,rfl⟩,⟨rfl,rfl⟩,trivial⟩)) (by (first|exact trivial|exact ⟨⟨rfl,rfl⟩,trivial⟩|exact ⟨⟨rfl,rfl⟩,⟨rfl,rfl⟩,trivial⟩|exact ⟨⟨rfl,rfl⟩,⟨rfl,rfl⟩,⟨rfl,rfl⟩,trivial⟩|exact ⟨⟨rfl,rfl⟩,⟨rfl,rfl⟩,⟨rfl,rfl⟩,⟨rfl,rfl⟩,trivial⟩|exact ⟨⟨rfl,rfl⟩,⟨rfl,rfl⟩,⟨rfl,rfl⟩,⟨rfl,rfl⟩,⟨rfl,rfl⟩,trivial⟩|exact ⟨⟨rfl,rfl⟩,⟨rfl,rfl⟩,⟨rfl,rfl⟩,⟨rfl,rfl⟩,⟨rfl,rfl⟩,⟨rfl,rfl⟩,trivial⟩|exact ⟨⟨rfl,rfl⟩,⟨rfl,rfl⟩,⟨rfl,rfl⟩,⟨rfl,rfl⟩,⟨rfl,rfl⟩,⟨rfl,rfl⟩,⟨rfl,rfl⟩,trivial⟩|exact ⟨⟨rfl,rfl⟩,⟨rfl,rfl⟩,⟨rfl,rfl⟩,⟨rfl,rfl⟩,⟨rfl,rfl⟩,⟨rfl,rfl⟩,⟨rfl,rfl⟩,⟨rfl,rfl⟩,trivial⟩)) rfl (by first|exact .inl rfl|exact .inr (fun _ _=>rfl)) ?_)|refine PWops.idxZ1 rfl rfl rfl rfl rfl rfl rfl rfl (by (first|omega|(dsimp only;omega))) ?_|refine PWops.idxZ rfl rfl rfl rfl rfl rfl rfl rfl (by (first|omega|(dsimp only;omega))) ?_|refine PWops.ld rfl rfl rfl rfl rfl rfl rfl rfl rfl ?_|refine PWops.slcL rfl rfl rfl rfl rfl rfl rfl rfl (by (first|omega|(dsimp only;omega))) ?_|refine PWops.slcH rfl rfl rfl rfl rfl rfl rfl rfl (by (first|omega|(dsimp only;omega))) ?_|refine PWops.slcRL rfl rfl rfl rfl rfl rfl rfl rfl (by intro;rfl) (by (first|omega|(dsimp only;omega))) ?_|refine PWops.slcRH rfl rfl rfl rfl rfl rfl rfl rfl (by intro;rfl) (by (first|omega|(dsimp only;omega))) ?_|refine PWops.slcM rfl rfl rfl rfl rfl rfl rfl rfl rfl (by (first|omega|(dsimp only;omega))) ?_|refine PWops.ldM rfl rfl rfl rfl rfl rfl rfl (by (first|omega|(dsimp only;omega))) rfl ?_|refine PWops.ldR rfl rfl rfl rfl rfl rfl rfl (by (first|exact secL_len|exact dcellL_len|exact putL_len|(intro;rfl))) (by (first|omega|(dsimp only;omega))) rfl rfl ?_|refine PWops.ldRA rfl rfl rfl rfl rfl rfl (by intro;rfl) (by (first|omega|(dsimp only;omega))) rfl ?_|refine PWops.slcP rfl rfl rfl rfl rfl rfl rfl rfl rfl (by decide) ?_|refine PWops.idxE1 rfl rfl rfl rfl rfl rfl rfl rfl (by (first|omega|(dsimp only;omega))) ?_|refine PWops.ldG rfl rfl rfl rfl rfl rfl (by (first|rfl|exact secL_len _|exact dcellL_len _|exact putL_len _|exact len_map (by assumption)|exact len_map rfl)) (by (first|rfl|exact secL_bare _|exact dcellL_bare _|exact putL_bare _|exact bare_map (fun _=>rfl) _)) ?_|refine PWops.ldMB rfl rfl rfl rfl rfl rfl rfl rfl (by (first|omega|(dsimp only;omega))) rfl rfl ?_|refine PWops.stMB rfl rfl rfl rfl rfl rfl rfl rfl rfl rfl (by (first|omega|(dsimp only;omega))) ?_|refine PWops.idxV rfl rfl rfl rfl rfl rfl rfl rfl (by (first|omega|(dsimp only;omega))) rfl ?_)));(repeat (first|(with_reducible first|refine PW.seq ?_|refine PW.block ?_|refine PW.skip ?_|refine PW.exit ?_|refine PW.ret ?_|refine thenP ?_|refine thenP_exit ?_|refine thenP_ret ?_|refine blockP ?_|refine blockP_exit ?_|refine blockP_ret ?_|refine loopP_exit ?_|refine loopP_ret ?_|refine loopU_exit ?_|refine loopU_ret ?_)|(first|((with_reducible refine PW.idd ?_);(first|refine PW.condT rfl ?_|refine PW.condF rfl ?_|refine PW.condTe rfl (by assumption) ?_|refine PW.condFe rfl (by assumption) ?_|refine blockP_other (by decide) ?_))|with_reducible refine blockP_other (by decide) ?_)));exact hHold.out):p:=h ⟨k⟩
theorem sb {p:Prop} (h:p:=by (refine Sub.same ?_;(repeat (first|exact SubR.bot|((with_reducible refine SubR.isp ?_);refine SubR.put ?_ (by exact rq0))|((with_reducible refine SubR.isb ?_);refine SubR.setb ?_ rfl rfl (by exact rl0))|((with_reducible refine SubR.ism ?_);refine SubR.setm ?_ rfl rfl (by (first|exact ⟨rfl,rfl,rfl,rfl,rfl⟩|exact RenM.low (by first|assumption|exact hlowm _|exact hlowm _ _)))))))):p:=h
theorem lw {p:Prop} (h:p:=by (first|exact low_mapI|exact low_mapS|exact low_mapB|assumption|exact hlow _|exact hlow _ _|exact Low.agg _ (low_map (fun _=>Low.val _) _)|(simp [low_pu32,low_pu64,low_val,low_nilsl,low_sl,low_ep,low_agg,low_tup,low_fn,low_pint,low_pstr,low_pbool,low_pints,low_pstrs,low_pbyte,low_pbytes,hlow];done)|(simp [low_pu32,low_pu64,low_val,low_nilsl,low_sl,low_ep,low_agg,low_tup,low_fn,low_pint,low_pstr,low_pbool,low_pints,low_pstrs,low_pbyte,low_pbytes];done)|simp [low_pu32,low_pu64,low_val,low_nilsl,low_sl,low_ep,low_agg,low_tup,low_fn,low_pint,low_pstr,low_pbool,low_pints,low_pstrs,low_pbyte,low_pbytes,low_pattrs,low_pdefs,low_pschema,low_pentry])):p:=h
theorem ren_eqlow {κ:Nat→Nat} {S:Nat→Prop} {q p:PV} (h:q=p) (hl:Low q):Ren κ S q p:=by subst h;exact .low _ hl
theorem fits1 (g:Nat) (d:PDef) (wv:Value) (a:PAttr) (w:World) (c5:w.cell? ⟨g,0,none⟩=some (.string a.name)) :
  Calls Tryz.prog 176 #[defV d wv, .pointer (some ⟨g,0,none⟩)] w (RetB w (eqB d.name a.name)):=by
 have hlt:=World.block_lt_of_cell? _ _ c5
 unfold defV
 go_enter Tryz.func176,Tryz.ntmps176
 go_wp2
 go_ret
 exact RetB.mk rfl (below_alloc _ _)
theorem fits2 (g h:Nat) (a:PAttr) (bf:ByteArray) (w:World) (ha:AttrAt w g 0 a) (c5:w.cell? ⟨h,0,none⟩=some (.string bf)) :
  Calls Tryz.prog 177 #[.pointer (some ⟨g,0,none⟩), .pointer (some ⟨h,0,none⟩)] w (RetB w (leqB a.name bf)):=by
 obtain ⟨c0,c1,c2,c3⟩:=ha
 go_enter Tryz.func177,Tryz.ntmps177
 go_wp2
 go_ret
 exact RetB.mk rfl (Below.refl _ _)
theorem fits3 (g h:Nat) (a:PAttr) (d:PDef) (wv:Value) (w:World) (ha:AttrAt w g 0 a) (hd:DefAt w h 0 d wv) :
  Calls Tryz.prog 178 #[.pointer (some ⟨g,0,none⟩), .pointer (some ⟨h,0,none⟩)] w (RetB w (a.kind != d.kind)):=by
 obtain ⟨c0,c1,c2,c3⟩:=ha
 obtain ⟨d0,d1,d2,d3,d4⟩:=hd
 go_enter Tryz.func178,Tryz.ntmps178
 go_wp2
 go_ret
 exact RetB.mk rfl (Below.refl _ _)
def formA (a:PAttr):Bool:=if a.kind == 1 then !a.s.toList.isEmpty else a.n != 0
def rangeA (d:PDef) (a:PAttr):Bool:=(a.kind == 1) && (decide (a.n < d.lo) || decide (d.hi < a.n))
def wordA (d:PDef) (a:PAttr):Bool := !(a.kind == 1) && !hasB d.words a.s
theorem fits4 (g h:Nat) (a:PAttr) (w:World) (ha:AttrAt w g 0 a) (c5:w.cell? ⟨h,0,none⟩=some (.bool (a.kind == 1))) :
  Calls Tryz.prog 179 #[.pointer (some ⟨h,0,none⟩), .pointer (some ⟨g,0,none⟩)] w (RetB w (formA a)):=by
 obtain ⟨c0,c1,c2,c3⟩:=ha
 unfold formA
 cases e:(a.kind == 1)
 ·rw [e] at c5
  go_enter Tryz.func179,Tryz.ntmps179
  go_wp2
  go_ret
  exact RetB.mk (by simp) (Below.refl _ _)
 ·rw [e] at c5
  cases e2:a.s.toList.isEmpty
  all_goals
   go_enter Tryz.func179,Tryz.ntmps179
   go_wp2
   go_ret
   exact RetB.mk (by simp_all) (Below.refl _ _)
theorem fits5 (g h k:Nat) (a:PAttr) (d:PDef) (wv:Value) (w:World) (ha:AttrAt w g 0 a) (hd:DefAt w k 0 d wv) (c5:w.cell? ⟨h,0,none⟩=some (.bool (a.kind == 1))) :
  Calls Tryz.prog 180 #[.pointer (some ⟨h,0,none⟩), .pointer (some ⟨g,0,none⟩), .pointer (some ⟨k,0,none⟩)] w (RetB w (rangeA d a)):=by
 obtain ⟨c0,c1,c2,c3⟩:=ha
 obtain ⟨d0,d1,d2,d3,d4⟩:=hd
 unfold rangeA
 cases e:(a.kind == 1)
 ·rw [e] at c5
  go_enter Tryz.func180,Tryz.ntmps180
  go_wp2
  go_ret
  exact RetB.mk (by simp) (Below.refl _ _)
 ·rw [e] at c5
  cases e2:decide (a.n < d.lo)
  all_goals
   go_enter Tryz.func180,Tryz.ntmps180
   go_wp2
   go_ret
   exact RetB.mk (by simp) (Below.refl _ _)
theorem fits6 (g h k:Nat) (a:PAttr) (d:PDef) (wv:Value) (w:World) (ha:AttrAt w g 0 a) (hd:DefAt w k 0 d wv) (hs:Strs w wv d.words) (hl:d.words.length≤1000) (c5:w.cell? ⟨h,0,none⟩=some (.bool (a.kind == 1))) :
  Calls Tryz.prog 181 #[.pointer (some ⟨h,0,none⟩), .pointer (some ⟨k,0,none⟩), .pointer (some ⟨g,0,none⟩)] w (RetB w (wordA d a)):=by
 have HS:=Lib.hid hs
 obtain ⟨c0,c1,c2,c3⟩:=ha
 obtain ⟨d0,d1,d2,d3,d4⟩:=hd
 clear hs
 unfold wordA
 cases e:(a.kind == 1)
 ·rw [e] at c5
  go_enter Tryz.func181,Tryz.ntmps181
  go_wp2_with fail
  refine (slicesContainsS _ d.words a.s _ HS.out (by omega)).mono ?_
  rintro e w' ⟨rfl,rfl⟩
  go_wp2
  go_ret
  exact RetB.mk (by simp) (Below.refl _ _)
 ·rw [e] at c5
  go_enter Tryz.func181,Tryz.ntmps181
  go_wp2
  go_ret
  exact RetB.mk (by simp) (Below.refl _ _)
theorem cF1:CallOk 176:=fun _ _=>by kernel_rfl
theorem cF2:CallOk 177:=fun _ _=>by kernel_rfl
theorem cF3:CallOk 178:=fun _ _=>by kernel_rfl
theorem cF4:CallOk 179:=fun _ _=>by kernel_rfl
theorem cF5:CallOk 180:=fun _ _=>by kernel_rfl
theorem cF6:CallOk 181:=fun _ _=>by kernel_rfl
structure EnvF (a:PAttr) (d:PDef) (wv:Value) (bf:ByteArray) (g h k q:Nat) (w:World):Prop where
 at_:AttrAt w g 0 a
 bf:w.cell? ⟨h,0,none⟩=some (.string bf)
 df:DefAt w k 0 d wv
 ws:Strs w wv d.words
 nm:w.cell? ⟨q,0,none⟩=some (.bool (a.kind == 1))
theorem EnvF.below {a:PAttr} {d:PDef} {wv:Value} {bf:ByteArray} {g h k q:Nat} {w w' : World} (e:EnvF a d wv bf g h k q w) (hb:Below w.heap.size w w'):EnvF a d wv bf g h k q w':=
 ⟨e.at_.below hb,below_cell hb e.bf,e.df.below hb,e.ws.below hb,below_cell hb e.nm⟩
def rulesF (a:PAttr) (d:PDef) (bf:ByteArray) (g h k q:Nat):List Rule := [⟨177,#[.pointer (some ⟨g,0,none⟩), .pointer (some ⟨h,0,none⟩)],leqB a.name bf,6⟩,
 ⟨178,#[.pointer (some ⟨g,0,none⟩), .pointer (some ⟨k,0,none⟩)],a.kind != d.kind,130⟩,
 ⟨179,#[.pointer (some ⟨q,0,none⟩), .pointer (some ⟨g,0,none⟩)],formA a,3⟩,
 ⟨180,#[.pointer (some ⟨q,0,none⟩), .pointer (some ⟨g,0,none⟩), .pointer (some ⟨k,0,none⟩)],rangeA d a,131⟩,
 ⟨181,#[.pointer (some ⟨q,0,none⟩), .pointer (some ⟨k,0,none⟩), .pointer (some ⟨g,0,none⟩)],wordA d a,131⟩]
def fitR (d:PDef) (bf:ByteArray) (a:PAttr):List (Bool×Int) := [(leqB a.name bf,6),(a.kind != d.kind,130),(formA a,3),(rangeA d a,131),(wordA d a,131)]
theorem runF {a:PAttr} {d:PDef} {wv:Value} {bf:ByteArray} {g h k q:Nat} {w:World} (e:EnvF a d wv bf g h k q w) (hl:d.words.length≤1000) (v:Value) (hv:Rules w v (rulesF a d bf g h k q)) :
  Calls Tryz.prog 87 #[v] w (RetI w (firstE (fitR d bf a))):=by
 refine attrFirst v (rulesF a d bf g h k q) w hv (Nat.le_of_ble_eq_true rfl) ?_ ?_
 ·intro r hr
  simp only [rulesF,List.mem_cons,List.not_mem_nil,or_false] at hr
  rcases hr with rfl|rfl|rfl|rfl|rfl
  ·exact cF2
  ·exact cF3
  ·exact cF4
  ·exact cF5
  ·exact cF6
 ·intro r hr w' hb
  have e':=e.below hb
  simp only [rulesF,List.mem_cons,List.not_mem_nil,or_false] at hr
  rcases hr with rfl|rfl|rfl|rfl|rfl
  ·exact fits2 g h a bf w' e'.at_ e'.bf
  ·exact fits3 g k a d wv w' e'.at_ e'.df
  ·exact fits4 g q a w' e'.at_ e'.nm
  ·exact fits5 g q k a d wv w' e'.at_ e'.df e'.nm
  ·exact fits6 g q k a d wv w' e'.at_ e'.df e'.ws hl e'.nm
theorem fitR_eq (d:PDef) (bf:ByteArray) (a:PAttr):firstE (fitR d bf a)=if leqB a.name bf then 6 else valueE d a:=by
 have he:=eqB_empty a.s
 unfold fitR firstE
 cases leqB a.name bf
 ·simp only [Bool.false_eq_true,if_false]
  unfold firstE valueE
  by_cases h1:a.kind=d.kind
  ·by_cases h2:a.kind=1
   ·have e2:(a.kind == 1)=true:=by simp [h2]
    rw [if_neg (show ¬(a.kind != d.kind)=true by simp [h1]),if_neg (show ¬a.kind≠d.kind from fun h=>h h1),if_pos h2]
    simp only [firstE,formA,rangeA,wordA,e2,if_true,Bool.true_and,Bool.not_true,Bool.false_and,Bool.false_eq_true,if_false,he]
    cases a.s.toList.isEmpty
    ·simp
    ·simp
   ·have e2:(a.kind == 1)=false:=by simp [h2]
    rw [if_neg (show ¬(a.kind != d.kind)=true by simp [h1]),if_neg (show ¬a.kind≠d.kind from fun h=>h h1),if_neg h2]
    simp only [firstE,formA,rangeA,wordA,e2,Bool.false_eq_true,if_false,Bool.false_and,Bool.not_false,Bool.true_and]
    by_cases h3:a.n=0
    ·simp [h3];cases hasB d.words a.s<;>simp
    ·simp [h3]
  ·rw [if_pos (show (a.kind != d.kind)=true by simp [h1]),if_pos h1]
 ·rfl
theorem fitsGo_drop (ds:List PDef) (l:List PAttr) (k:Nat) (b:ByteArray) (a:PAttr) (h:l[k]? = some a):fitsGo ds b false (l.drop k)=if fitE ds b false a≠0 then fitE ds b false a else fitsGo ds a.name false (l.drop (k+1)):=by
 obtain ⟨hk,rfl⟩:=List.getElem?_eq_some_iff.1 h
 rw [List.drop_eq_getElem_cons (by omega),fitsGo]
theorem fitsGo_end (ds:List PDef) (l:List PAttr) (k:Nat) (b:ByteArray) (f:Bool) (h:l.length≤k):fitsGo ds b f (l.drop k)=0:=by
 rw [List.drop_eq_nil_of_le h,fitsGo]
theorem fitE_none (ds:List PDef) (b:ByteArray) (f:Bool) (a:PAttr) (h:findI ds a.name < 0):fitE ds b f a=5:=by rw [fitE,if_pos h]
theorem fitE_some (ds:List PDef) (b:ByteArray) (a:PAttr) (k:Nat) (d:PDef) (h:findI ds a.name=k) (hd:ds[k]? = some d):fitE ds b false a=firstE (fitR d b a):=by
 rw [fitE,if_neg (by omega),fitR_eq,h,Int.toNat_natCast,hd];rfl
def Two (H:Nat) (x y:Value) (v:Value) (w:World):Prop:=∃g,v = .slice (some ⟨g,0,none⟩) 2 2∧H≤g∧w.cell? ⟨g,0,none⟩=some x∧w.cell? ⟨g,1,none⟩=some y
theorem Two.below {H:Nat} {x y v:Value} {w w' : World} (h:Two H x y v w) (hb:Below w.heap.size w w'):Two H x y v w':=by
 obtain ⟨g,h1,h2,h3,h4⟩:=h
 exact ⟨g,h1,h2,below_cell hb h3,below_cell hb h4⟩
theorem Two.rd {H:Nat} {x y v:Value} {w:World} (h:Two H x y v w):Rd w v [x,y]:=by
 obtain ⟨g,rfl,h2,h3,h4⟩:=h
 refine ⟨_,2,g,0,rfl,by simp,by simp [maxLen],fun _=>rfl,fun j u hu=>?_⟩
 match j,hu with
 |0,hu=>simp at hu;subst hu;exact h3
 |1,hu=>simp at hu;subst hu;exact h4
def smallA (a:PAttr):Bool:=decide (a.name.size≤300) && decide (a.s.size≤300)
def fewB (e:PEntry):Bool:=(e.attrs.take 21).all smallA && (decide (e.vec.length≤40) && decide (e.attrs.length≤20))
def entCellsP (e:PEntry):List PV := [pint e.id,pint e.ver,pint e.owner,pint e.filed,pint e.frm,pint e.to,pint e.born,pints e.vec,pattrs e.attrs]
theorem low_entCells (e:PEntry):∀c∈entCellsP e,Low c:=low_agg.1 ((low_pentry e).2 trivial)
theorem attr_cell {l:List PAttr} {k:Nat} {a:PAttr} (h:l[k]? = some a):(l.flatMap pattrL)[k * 4+0]? = some (pstr a.name)∧(l.flatMap pattrL)[k * 4+1]? = some (pint a.kind)∧(l.flatMap pattrL)[k * 4+2]? = some (pint a.n)∧(l.flatMap pattrL)[k * 4+3]? = some (pstr a.s):=
 ⟨flatMap_get (f:=pattrL) (k:=4) (fun _=>rfl) h rfl,flatMap_get (f:=pattrL) (k:=4) (fun _=>rfl) h rfl,flatMap_get (f:=pattrL) (k:=4) (fun _=>rfl) h rfl,flatMap_get (f:=pattrL) (k:=4) (fun _=>rfl) h rfl⟩
set_option maxRecDepth 10000 in
set_option maxHeartbeats 1000000 in
theorem pw_few (e:PEntry) (hl:e.attrs.length≤20000000000000) (hv:e.vec.length≤20000000000000):PCalls Tryz.prog 33 [pentry e] (· = pbool (fewB e)):=by
 refine pcalls_of_pw typeTab_ok Tryz.func33 rfl (by kernel_rfl) (by exact lw) (by simp [pentry,PV.ownB]) (by rw [Tryz.ntmps33];simp) ?_
 rw [Tryz.ntmps33,Tryz.results33]
 refine wk ?_
 refine PW.loop (fun k:Nat=>(((bot.setb 0 (entCellsP e)).put 1 (.ptr 0 0)).put 2 (pbool false)).put 3 (pint k)) (fun k=>k≤e.attrs.length∧k≤21∧(e.attrs.take k).all smallA=true) (fun k=>e.attrs.length - k) 0 ⟨by omega,by omega,by simp⟩ ?_ ?_
 ·exact sb
 ·rintro k ⟨hk,hk2,hall⟩
  by_cases hlt:k < e.attrs.length
  ·by_cases h20:k≤20
   ·obtain ⟨a,ha⟩:=ints_get e.attrs k hlt
    obtain ⟨c0,c1,c2,c3⟩:=attr_cell ha
    have hbad:smallA a=false→fewB e=false:=by
     intro hs
     have:(e.attrs.take 21).all smallA=false:=by
      rw [List.all_eq_false]
      exact ⟨a,by rw [List.mem_take_iff_getElem];obtain ⟨h3,h4⟩:=List.getElem?_eq_some_iff.1 ha;exact ⟨k,by omega,h4⟩,by simp [hs]⟩
     simp [fewB,this]
    by_cases h1:300 < a.name.size
    ·refine wk ?_
     refine retP rfl (by exact lw) ?_
     rw [hbad (by simp [smallA];omega)];rfl
    ·by_cases h2:300 < a.s.size
     ·refine wk ?_
      refine retP rfl (by exact lw) ?_
      rw [hbad (by simp [smallA];omega)];rfl
     ·refine wk ?_
      refine loopP (k+1) ⟨by omega,by omega,?_⟩ (by omega) ?_
      ·rw [List.take_add_one,List.all_append,hall,ha]
       simp [smallA];omega
      ·exact sb
   ·have e21:(e.attrs.take 21).all smallA=true:=by rw [show k=21 by omega] at hall;exact hall
    have hr:fewB e=false:=by simp [fewB];omega
    by_cases hv40:e.vec.length≤40
    ·have:¬e.attrs.length≤20:=by omega
     refine wk ?_
     refine retP rfl (by exact lw) ?_
     rw [hr];rfl
    ·refine wk ?_
     refine retP rfl (by exact lw) ?_
     rw [hr];rfl
  ·have e21:(e.attrs.take 21).all smallA=true:=by
    rw [List.take_of_length_le (by omega)] at hall
    rw [List.all_eq_true] at hall ⊢
    exact fun x hx=>hall x (List.mem_of_mem_take hx)
   by_cases hv40:e.vec.length≤40
   ·by_cases ha20:e.attrs.length≤20
    ·refine wk ?_
     refine retP rfl (by exact lw) ?_
     simp [fewB,e21,hv40,ha20,pbool]
    ·refine wk ?_
     refine retP rfl (by exact lw) ?_
     simp [fewB,ha20,pbool]
   ·refine wk ?_
    refine retP rfl (by exact lw) ?_
    simp [fewB,hv40,pbool]
theorem ba_beq (a b:ByteArray):(a == b)=true↔a=b:=by
 obtain ⟨a⟩:=a
 obtain ⟨b⟩:=b
 have:((⟨a⟩:ByteArray) == ⟨b⟩)=(a == b):=rfl
 rw [this,ByteArray.mk.injEq,beq_iff_eq]
def eqAttrB (a b:PAttr):Bool:=a.name == b.name && (a.kind == b.kind && (a.n == b.n && (a.s == b.s && true)))
theorem eqAttrB_iff (a b:PAttr):eqAttrB a b=true↔a=b:=by
 obtain ⟨n1,k1,x1,s1⟩:=a
 obtain ⟨n2,k2,x2,s2⟩:=b
 simp [eqAttrB,ba_beq]
instance:DecidableEq PAttr:=fun a b=>decidable_of_iff _ (eqAttrB_iff a b)
end
section
open Go.RowKit
variable {P:Program} {T:Tab} {σ:PS} {o:Oper} {i base:Nat} {ops:Array Oper} {ok:Nat→Nat→Bool} {rest:List (Nat×Oper)} {K:PS→Prop}
theorem PWops.mkMG {d:Nat} {t:TypeId} (hg:pguard ops σ o=some true) (hd:o.dst=some d) (hop:o.op = .makeMap t none) (hb:σ.freeB (base+i)=true)
  (kn:PWops P T ops base ok rest K ((σ.setm (base+i) (.map [] 0)).put d (.mref (base+i)))):PWops P T ops base ok ((i,o) :: rest) K σ:=by
 refine PWops.stepM hg (E:=⟨.mref (base+i),[],none,[(base+i, .map [] 0)]⟩) ?_ hb (by rw [hd];exact kn)
 have h1:(σ.only (ok i)).b (base+i)=none∧(σ.only (ok i)).m (base+i)=none:=by
  obtain ⟨q1,q2⟩:=PS.freeB_spec hb
  simp only [PS.only,q1,q2]
  constructor<;>split<;>rfl
 simp only [hop,presM,h1.1,h1.2]
theorem PWops.mins {mid clock kt et:Nat} {x k v:Operand} {t:TypeId} {es:List (Nat×PV×PV)} {kv:Value} {ti ki:TyI} {X:PMap} {p:PV} (hg:pguard ops σ o=some true) (hd:o.dst=none) (hop:o.op = .insert t x k v) (hx:pev σ x = .mref mid) (hm:(σ.only (ok i)).m mid=some (.map es clock)) (hkv:pev σ k = .val kv) (ht:T.at t=some ti) (hk:ti.kind = .map kt et) (hki:T.at kt=some ki) (hb:σ.freeB (base+i)=true)
  (hn:(ownPV σ v).ownB=false) (hv:pev σ v=p) (hput:Go.Proofs.YtoamkpgaaanafaaGreat.mput ki es clock kv p=some X) (kn:PWops P T ops base ok rest K (σ.setm mid X)):PWops P T ops base ok ((i,o) :: rest) K σ:=by
 refine PWops.stepM hg (E:=⟨.tup [],[],none,[(mid,X)]⟩) ?_ hb ?_
 ·have hn' : (ownPV (σ.only (ok i)) v).ownB=false:=by cases v<;>exact hn
  simp only [hop,presM,pput,ht,hk,hki,pev_only,hx,mapOf,hm,hkv,ownArg,hn',Bool.false_eq_true,if_false,hv,hput,Option.map_some]
 ·rw [hd];exact kn
end
end Go.Proofs.YtoamkpgaaanafaaGreat
