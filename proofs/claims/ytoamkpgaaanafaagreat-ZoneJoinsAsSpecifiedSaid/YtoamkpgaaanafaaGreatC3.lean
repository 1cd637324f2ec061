/- Merged: PwP, PwQ0, Opens, PlainA, PlainB, PlainC, PlainX, PlainY, PlainD, PlainF, PlainM, PlainZ, PlainS, PlainT, PlainU, Wire2, Wire3, Wire4, Elem, Wire5, AttrM, AttrA, AttrB, AttrC, AttrD, AttrE, AttrF, AttrJ, AttrK, Hu, StrA, StrB, PwQ, Row13, PwQ2, Slices, PwS, Tab, PwU, PwV, PwW, PwX, PwY, PwZ, PwZ2. -/
import Derived.Deep.Slices
import Derived.Lib.LaidU8
import Derived.LaidMore
import Derived.LaidLaws
import Derived.Stop.Joined
import Derived.MakeChecks
import GoSem.Step
import Derived.Laws.RangeAny
import Derived.Lib.OthersKept
import Derived.Outline
import Derived.Lib.Hide
import Derived.Laws.EntriesVeiled
import Derived.Laws.BytesString
import Derived.KernelRfl
import Derived.Test.YtoamkpgaaanafaaGreatC2
/- Pure states: more steps of a walk; what is encoded. -/
namespace Go.Proofs.YtoamkpgaaanafaaGreat
set_option linter.unusedSimpArgs false
set_option linter.unusedVariables false
set_option linter.unnecessarySimpa false
open Go.RowKit
theorem sl_eq {n n' k:Nat} {cs cs' : List PV} {o:Option TypeId} (h1:n=n') (h2:cs=cs'):PV.sl n k cs o = .sl n' k cs' o:=by rw [h1,h2]
section
variable {P:Program} {M:Nat} {Q:Exit→PS→Prop} {σ:PS} {T:Tab} {ops:Array Oper} {i:Nat} {o:Oper} {rest:List (Nat×Oper)} {K:PS→Prop} {base:Nat} {ok:Nat→Nat→Bool}
theorem pev_only (ok:Nat→Bool) (x:Operand):pev (σ.only ok) x=pev σ x:=by cases x<;>rfl
theorem PWops.valEq {d:Nat} {p q:PV} (hg:pguard ops σ o=some true) (hd:o.dst=some d) (hE:presE T (headB ops o.dst) (base+i) (σ.only (ok i)) o.op=some ⟨p,[],none,[]⟩) (hp:p=q) (hb:σ.freeB (base+i)=true) (k:PWops P T ops base ok rest K (σ.put d q)):PWops P T ops base ok ((i,o) :: rest) K σ:=by
 subst hp
 refine PWops.step hg hE hb ?_
 rw [hd]
 exact k
theorem PWops.bool {d:Nat} {b:Bool} (v:Bool) (hg:pguard ops σ o=some true) (hd:o.dst=some d) (hE:feff (presE T (headB ops o.dst) (base+i) (σ.only (ok i)) o.op)=some (.val (.bool b))) (hv:b=v) (hb:σ.freeB (base+i)=true) (k:PWops P T ops base ok rest K (σ.put d (.val (.bool v)))):PWops P T ops base ok ((i,o) :: rest) K σ:=by
 subst hv
 exact PWops.val hg hd hE hb k
theorem PWops.int {d:Nat} {kk:IntKind} {z:Int} (z' : Int) (hg:pguard ops σ o=some true) (hd:o.dst=some d) (hE:feff (presE T (headB ops o.dst) (base+i) (σ.only (ok i)) o.op)=some (.val (.int kk z))) (hv:z=z') (hb:σ.freeB (base+i)=true) (k:PWops P T ops base ok rest K (σ.put d (.val (.int kk z')))):PWops P T ops base ok ((i,o) :: rest) K σ:=by
 subst hv
 exact PWops.val hg hd hE hb k
theorem wrap64_id {z:Int} (h1 : -9223372036854775808≤z) (h2:z≤9223372036854775807):IntKind.i64.wrap z=z:=IntWalk.i64_in z ⟨h1,h2⟩
theorem PWops.fits {d:Nat} {z:Int} (hg:pguard ops σ o=some true) (hd:o.dst=some d) (hE:feff (presE T (headB ops o.dst) (base+i) (σ.only (ok i)) o.op)=some (.val (.int .i64 (IntKind.i64.wrap z)))) (h1 : -9223372036854775808≤z) (h2:z≤9223372036854775807) (hb:σ.freeB (base+i)=true) (k:PWops P T ops base ok rest K (σ.put d (.val (.int .i64 z)))):PWops P T ops base ok ((i,o) :: rest) K σ:=
 PWops.int z hg hd hE (wrap64_id h1 h2) hb k
def isCmp:Op→Bool
 | .binOp op _ _ _ _=>match op with
  | .eql | .neq | .lss | .leq | .gtr | .geq=>true
  |_=>false
 |_=>false
def isArith:Op→Bool
 | .binOp op _ _ _ _=>match op with
  | .add | .sub | .mul=>true
  |_=>false
 |_=>false
theorem PWops.boolK {d:Nat} {b:Bool} (v:Bool) (hk:isCmp o.op=true) (hg:pguard ops σ o=some true) (hd:o.dst=some d) (hE:feff (presE T (headB ops o.dst) (base+i) (σ.only (ok i)) o.op)=some (.val (.bool b))) (hv:b=v) (hb:σ.freeB (base+i)=true) (k:PWops P T ops base ok rest K (σ.put d (.val (.bool v)))):PWops P T ops base ok ((i,o) :: rest) K σ:=PWops.bool v hg hd hE hv hb k
theorem PWops.fitsK {d:Nat} {z:Int} (hk:isArith o.op=true) (hg:pguard ops σ o=some true) (hd:o.dst=some d) (hE:feff (presE T (headB ops o.dst) (base+i) (σ.only (ok i)) o.op)=some (.val (.int .i64 (IntKind.i64.wrap z)))) (h1 : -9223372036854775808≤z) (h2:z≤9223372036854775807) (hb:σ.freeB (base+i)=true) (k:PWops P T ops base ok rest K (σ.put d (.val (.int .i64 z)))):PWops P T ops base ok ((i,o) :: rest) K σ:=PWops.fits hg hd hE h1 h2 hb k
theorem PWops.idx {d n k j e by_:Nat} {cs zr:List PV} {own:Option TypeId} {kk:IntKind} {x ix:Operand} {t:TypeId} {ti:TyI} (hg:pguard ops σ o=some true) (hd:o.dst=some d) (hop:o.op = .indexAddr t x ix) (hx:pev σ x = .sl n k cs own) (hi:pev σ ix = .val (.int kk (j:Int))) (ht:T.at t=some ti) (hk:ti.kind = .slice e k by_ zr) (hb:σ.freeB (base+i)=true) (hj:j < n)
  (kn:PWops P T ops base ok rest K (σ.put d (.ep cs (j * k)))):PWops P T ops base ok ((i,o) :: rest) K σ:=by
 refine PWops.valEq hg hd (p:=.ep cs (j * k)) ?_ rfl hb kn
 have h1:k=k∧(0:Int)≤(j:Int)∧(j:Int) < (n:Int):=⟨rfl,by omega,by omega⟩
 simp [hop,presE,pvalA,pval,pev_only,hx,hi,ht,hk,pindexAt,h1]
theorem PWops.idx1 {d n j e by_:Nat} {cs zr:List PV} {own:Option TypeId} {kk:IntKind} {x ix:Operand} {t:TypeId} {ti:TyI} (hg:pguard ops σ o=some true) (hd:o.dst=some d) (hop:o.op = .indexAddr t x ix) (hx:pev σ x = .sl n 1 cs own) (hi:pev σ ix = .val (.int kk (j:Int))) (ht:T.at t=some ti) (hk:ti.kind = .slice e 1 by_ zr) (hb:σ.freeB (base+i)=true) (hj:j < n)
  (kn:PWops P T ops base ok rest K (σ.put d (.ep cs j))):PWops P T ops base ok ((i,o) :: rest) K σ:=
 PWops.idx hg hd hop hx hi ht hk hb hj (by rw [Nat.mul_one];exact kn)
theorem PWops.ld {d off:Nat} {cs:List PV} {c q:PV} {x:Operand} {t:TypeId} {ti:TyI} (hg:pguard ops σ o=some true) (hd:o.dst=some d) (hop:o.op = .load t x) (hx:pev σ x = .ep cs off) (ht:T.at t=some ti) (ha:ti.agg=false) (hb:σ.freeB (base+i)=true) (hc:cs[off]? = some c) (hq:fval c.bare=some q)
  (kn:PWops P T ops base ok rest K (σ.put d q)):PWops P T ops base ok ((i,o) :: rest) K σ:=by
 refine PWops.valEq hg hd (p:=c.bare) ?_ (fval_eq hq) hb kn
 simp [hop,presE,ploadO,pvalA,pval,pev_only,hx,ht,ploadAt,asVal,ha,hc]
theorem PWops.ldA {d off m:Nat} {cs row:List PV} {x:Operand} {t:TypeId} {kd:TD} {zr:List PV} {es:List SK} (hg:pguard ops σ o=some true) (hd:o.dst=some d) (hop:o.op = .load t x) (hx:pev σ x = .ep cs off) (ht:T.at t=some ⟨m,true,kd,zr,es⟩) (hb:σ.freeB (base+i)=true) (hl:off+m≤cs.length) (hr:((cs.drop off).take m).map PV.bare=row)
  (kn:PWops P T ops base ok rest K (σ.put d (.agg row))):PWops P T ops base ok ((i,o) :: rest) K σ:=by
 refine PWops.valEq hg hd (p:=.agg (((cs.drop off).take m).map PV.bare)) ?_ (by rw [hr]) hb kn
 simp [hop,presE,ploadO,pvalA,pval,pev_only,hx,ht,ploadAt,asVal,hl]
theorem PWops.app {d s n m k e by_:Nat} {cs ds zr:List PV} {own:Option TypeId} {x:Operand} {t:TypeId} {sz:Nat} {ag:Bool} {zz:List PV} {es:List SK} (hg:pguard ops σ o=some true) (hd:o.dst=some d) (hop:o.op = .call { callee:=.builtin .append,args := #[.tmp s,x],argTypes := #[t,t] }) (hs:σ.t s = .sl n k cs (some e)) (hx:pev σ x = .sl m k ds own) (ht:T.at t=some ⟨sz,ag, .slice e k by_ zr,zz,es⟩) (hb:σ.freeB (base+i)=true) (he:Nat.blt e 1000000=true)
  (h1:(n+m) * by_≤140737488355328) (h2:n+m≤140737488355328) (hone:ds.all PV.one=true) (kn:PWops P T ops base ok rest K ((σ.put s (.sl n k cs none)).put d (.sl (n+m) k (cs ++ ds) (some e)))):PWops P T ops base ok ((i,o) :: rest) K σ:=by
 refine PWops.step hg (E:=⟨.sl (n+m) k (cs ++ ds) (some e),[],some s,[]⟩) ?_ hb ?_
 ·have how:ownPV (σ.only (ok i)) (.tmp s) = .sl n k cs (some e):=hs
  simp [hop,presE,how,pev_only,hx,ht,pappend,asOwn,asSrc,h1,h2,disOf,fullB,(by simpa [Nat.blt_eq] using he:e < 1000000)]
  simpa using hone
 ·rw [hd]
  simp only [PS.app,hs,List.foldl_nil,List.foldl_cons]
  exact kn
theorem PWops.app0 {d s m k e by_:Nat} {ds zr:List PV} {own:Option TypeId} {x:Operand} {t:TypeId} {sz:Nat} {ag:Bool} {zz:List PV} {es:List SK} (hg:pguard ops σ o=some true) (hd:o.dst=some d) (hop:o.op = .call { callee:=.builtin .append,args := #[.tmp s,x],argTypes := #[t,t] }) (hs:σ.t s = .nilsl) (hx:pev σ x = .sl m k ds own) (ht:T.at t=some ⟨sz,ag, .slice e k by_ zr,zz,es⟩) (hb:σ.freeB (base+i)=true) (he:Nat.blt e 1000000=true)
  (h1:m * by_≤140737488355328) (h2:m≤140737488355328) (hone:ds.all PV.one=true) (kn:PWops P T ops base ok rest K ((σ.put s .nilsl).put d (.sl m k ds (some e)))):PWops P T ops base ok ((i,o) :: rest) K σ:=by
 refine PWops.step hg (E:=⟨.sl (0+m) k ([] ++ ds) (some e),[],some s,[]⟩) ?_ hb ?_
 ·have how:ownPV (σ.only (ok i)) (.tmp s) = .nilsl:=hs
  simp [hop,presE,how,pev_only,hx,ht,pappend,asOwn,asSrc,h1,h2,disOf,fullB,(by simpa [Nat.blt_eq] using he:e < 1000000)]
  simpa using hone
 ·rw [hd]
  simp only [PS.app,hs,Nat.zero_add,List.nil_append,List.foldl_nil,List.foldl_cons]
  exact kn
theorem PWops.slc {d n k e by_:Nat} (l h:Nat) {cs zr:List PV} {own:Option TypeId} {x:Operand} {lo hi:Option Operand} {t:TypeId} {ti:TyI} (hg:pguard ops σ o=some true) (hd:o.dst=some d) (hop:o.op = .slice t x lo hi none) (hx:pev σ x = .sl n k cs own) (ht:T.at t=some ti) (hk:ti.kind = .slice e k by_ zr) (hb:σ.freeB (base+i)=true)
  (h1:pbound n n (hi.map (pev σ))=some h) (h2:pbound 0 h (lo.map (pev σ))=some l) (kn:PWops P T ops base ok rest K (σ.put d (.sl (h - l) k ((cs.drop (l * k)).take ((h - l) * k)) none))):PWops P T ops base ok ((i,o) :: rest) K σ:=by
 refine PWops.valEq hg hd (p:=.sl (h - l) k ((cs.drop (l * k)).take ((h - l) * k)) none) ?_ rfl hb kn
 have e1:pev (σ.only (ok i))=pev σ:=funext (pev_only _)
 simp [hop,presE,pvalA,pval,e1,hx,ht,hk,pslice,h1,h2]
theorem PWops.str {d n k e by_:Nat} {zr:List PV} {own:Option TypeId} {bs:List Int} {x:Operand} {ts td:TypeId} {si di ei:TyI} (hg:pguard ops σ o=some true) (hd:o.dst=some d) (hop:o.op = .convert ts td x) (hx:pev σ x = .sl n 1 (bs.map fun b=>.val (.int .u8 b)) own) (hs:T.at ts=some si) (ht:T.at td=some di) (hk1:si.kind = .slice e k by_ zr) (hk2:di.kind = .str) (he:T.at e=some ei) (hke:ei.kind = .int .u8) (hb:σ.freeB (base+i)=true)
  (kn:PWops P T ops base ok rest K (σ.put d (.val (.string (strI bs))))):PWops P T ops base ok ((i,o) :: rest) K σ:=by
 refine PWops.valEq hg hd (p:=.val (.string (strI bs))) ?_ rfl hb kn
 simp [hop,presE,pvalA,pval,pev_only,hx,hs,ht,hk1,hk2,he,hke,pconv,pconvS,bytesOf_map]
theorem low_val (v:Value):Low (.val v)↔True:=⟨fun _=>trivial,fun _=>.val v⟩
theorem low_nilsl:Low .nilsl↔True:=⟨fun _=>trivial,fun _=>.nilsl⟩
theorem low_sl {n k:Nat} {cs:List PV} {own:Option TypeId} : Low (.sl n k cs own)↔∀c∈cs,Low c:=⟨fun h=>by cases h;assumption,fun h=>.sl n k cs own h⟩
theorem low_ep {cs:List PV} {off:Nat} : Low (.ep cs off)↔∀c∈cs,Low c:=⟨fun h=>by cases h;assumption,fun h=>.ep cs off h⟩
theorem low_agg {cs:List PV} : Low (.agg cs)↔∀c∈cs,Low c:=⟨fun h=>by cases h;assumption,fun h=>.agg cs h⟩
theorem low_tup {cs:List PV} : Low (.tup cs)↔∀c∈cs,Low c:=⟨fun h=>by cases h;assumption,fun h=>.tup cs h⟩
theorem low_fn {f:FuncId} {cs:List PV} : Low (.fn f cs)↔∀c∈cs,Low c:=⟨fun h=>by cases h;assumption,fun h=>.fn f cs h⟩
theorem low_pint (z:Int):Low (pint z)↔True:=low_val _
theorem low_pstr (z:ByteArray):Low (pstr z)↔True:=low_val _
theorem low_pbool (z:Bool):Low (pbool z)↔True:=low_val _
theorem low_pints (zs:List Int):Low (pints zs)↔True:=⟨fun _=>trivial,fun _=>.sl _ _ _ _ (fun c hc=>by obtain ⟨z,-,rfl⟩:=List.mem_map.1 hc;exact .val _)⟩
theorem low_pstrs (zs:List ByteArray):Low (pstrs zs)↔True:=⟨fun _=>trivial,fun _=>.sl _ _ _ _ (fun c hc=>by obtain ⟨z,-,rfl⟩:=List.mem_map.1 hc;exact .val _)⟩
theorem map_get {α:Type} {f:α→PV} {l:List α} {j:Nat} {x:α} (h:l[j]? = some x):(l.map f)[j]? = some (f x):=by simp [h]
theorem flatMap_get {α:Type} {f:α→List PV} {k:Nat} (hk:∀x,(f x).length=k):∀{l:List α} {j:Nat} {x:α} {m:Nat} {c:PV},l[j]? = some x→(f x)[m]? = some c→(l.flatMap f)[j * k+m]? = some c
 | [],j,x,m,c,h,_=>by simp at h
 |y :: l,0,x,m,c,h,hc=>by
  simp at h;subst h
  have hm:m < (f y).length:=(List.getElem?_eq_some_iff.1 hc).1
  rw [List.flatMap_cons,Nat.zero_mul,Nat.zero_add,List.getElem?_append_left hm];exact hc
 |y :: l,j+1,x,m,c,h,hc=>by
  simp at h
  rw [List.flatMap_cons,List.getElem?_append_right (by rw [hk,Nat.succ_mul];omega),hk,show (j+1) * k+m - k=j * k+m by rw [Nat.succ_mul];omega]
  exact flatMap_get hk h hc
theorem flatMap_len {α:Type} {f:α→List PV} {k:Nat} (hk:∀x,(f x).length=k):∀(l:List α),(l.flatMap f).length=l.length * k
 | []=>by simp
 |y :: l=>by rw [List.flatMap_cons,List.length_append,hk,flatMap_len hk l,List.length_cons,Nat.succ_mul];omega
theorem flatMap_row {α:Type} {f:α→List PV} {k:Nat} (hk:∀x,(f x).length=k):∀{l:List α} {j:Nat} {x:α},l[j]? = some x→((l.flatMap f).drop (j * k)).take k=f x
 | [],j,x,h=>by simp at h
 |y :: l,0,x,h=>by
  simp at h;subst h
  rw [List.flatMap_cons,Nat.zero_mul,List.drop_zero,List.take_append_of_le_length (by rw [hk];exact Nat.le_refl _),List.take_of_length_le (by rw [hk];exact Nat.le_refl _)]
 |y :: l,j+1,x,h=>by
  simp at h
  rw [List.flatMap_cons,show (j+1) * k=(f y).length+j * k by rw [hk,Nat.succ_mul];omega,List.drop_append]
  simp only [Nat.add_sub_cancel_left]
  rw [List.drop_eq_nil_of_le (by omega),List.nil_append]
  exact flatMap_row hk h
end
def pbyte (z:Int):PV:=.val (.int .u8 z)
def pbytes (bs:List Int):PV:=.sl bs.length 1 (bs.map pbyte) none
theorem low_mapI {n k:Nat} {l:List Int} {o:Option TypeId} : Low (.sl n k (l.map pint) o):=.sl _ _ _ _ (fun c hc=>by obtain ⟨z,-,rfl⟩:=List.mem_map.1 hc;exact .val _)
theorem low_mapS {n k:Nat} {l:List ByteArray} {o:Option TypeId} : Low (.sl n k (l.map pstr) o):=.sl _ _ _ _ (fun c hc=>by obtain ⟨z,-,rfl⟩:=List.mem_map.1 hc;exact .val _)
theorem low_mapB {n k:Nat} {l:List Int} {o:Option TypeId} : Low (.sl n k (l.map pbyte) o):=.sl _ _ _ _ (fun c hc=>by obtain ⟨z,-,rfl⟩:=List.mem_map.1 hc;exact .val _)
theorem one_pint (l:List Int):(l.map pint).all PV.one=true:=by rw [List.all_map,List.all_eq_true];intro x _;rfl
theorem one_pstr (l:List ByteArray):(l.map pstr).all PV.one=true:=by rw [List.all_map,List.all_eq_true];intro x _;rfl
theorem one_pbyte (l:List Int):(l.map pbyte).all PV.one=true:=by rw [List.all_map,List.all_eq_true];intro x _;rfl
theorem low_pbyte (z:Int):Low (pbyte z)↔True:=low_val _
theorem low_pbytes (zs:List Int):Low (pbytes zs)↔True:=⟨fun _=>trivial,fun _=>.sl _ _ _ _ (fun c hc=>by obtain ⟨z,-,rfl⟩:=List.mem_map.1 hc;exact .val _)⟩
theorem PW.condT {P:Program} {M:Nat} {Q:Exit→PS→Prop} {σ:PS} {c:Operand} {x y:Code} (hc:pev σ c = .val (.bool true)) (h:PW P M x Q σ):PW P M (.cond c x y) Q σ:=PW.cond hc (fun _=>h) (fun e=>by cases e)
theorem PW.condF {P:Program} {M:Nat} {Q:Exit→PS→Prop} {σ:PS} {c:Operand} {x y:Code} (hc:pev σ c = .val (.bool false)) (h:PW P M y Q σ):PW P M (.cond c x y) Q σ:=PW.cond hc (fun e=>by cases e) (fun _=>h)
end Go.Proofs.YtoamkpgaaanafaaGreat

/- Pure states: a new slice as a pure value, contracts of one argument. -/
namespace Go.Proofs.YtoamkpgaaanafaaGreat
set_option linter.unusedSimpArgs false
set_option linter.unusedVariables false
set_option linter.unnecessarySimpa false
open Go.RowKit
def pbytesO (zs:List Int):PV:=.sl zs.length 1 (zs.map pbyte) (some 5)
section
variable {Φ:Imm} {μ:Nat→Option Nat} {w:World} (himm:∀b o u,Φ b o=some u→w.cell? ⟨b,o,none⟩=some u)
include himm
theorem post_flat {w' : World} {post:PV→Prop} {r:PV} {v:Value} (hr:Rep Φ mu0 r v) (hf:r.ownB=false) (hp:post r) (hb:Below w.heap.size w w'):CallPost Φ w post (.returned v) w':=by
 refine ⟨r,v,Φ,rfl,hp,hr,fun b o u e=>below_cell hb (himm b o u e),fun _ _ _=>rfl,hb,fun n k cs E e=>?_⟩
 rw [e] at hf;simp [PV.ownB] at hf
theorem own_rep {w' : World} {E:TypeId} {v:Value} {α:Type} {f:α→Value} {l:List α} (hplain:∀x,plainV (f x)=true) (ho:Own w.heap.size E w' v (l.map f)) (hb:Below w.heap.size w w') (hE:E < 1000000:=by decide) :
  ∃Φ' : Imm,(∀b o u,Φ' b o=some u→w'.cell? ⟨b,o,none⟩=some u)∧(∀b o,b < w.heap.size→Φ' b o=Φ b o)∧Rep Φ' mu0 (.sl l.length 1 (l.map fun x=>.val (f x)) (some E)) v∧OwnAt (fun g=>w.heap.size≤g) Φ' (fun _=>some (.tmp 0)) w' (.tmp 0) l.length 1 E v:=by
 have himm' : ∀b o u,Φ b o=some u→w'.cell? ⟨b,o,none⟩=some u:=fun b o u e=>below_cell hb (himm b o u e)
 have hfr:∀b o u,Φ b o=some u→b < w.heap.size:=fun b o u e=>World.block_lt_of_cell? _ _ (himm b o u e)
 rcases ho.2 with ⟨rfl,hn⟩|⟨g,cap,cur,rfl,hBg,hgg,hc,hm,hs,ht⟩
 ·have hl:l = []:=List.eq_nil_of_length_eq_zero (by simpa using hn)
  subst hl
  exact ⟨Φ,himm',fun _ _ _=>rfl, .sl0 _ _ _ _ (by unfold maxLen;omega), .inl ⟨rfl,rfl⟩⟩
 ·simp only [List.length_map,Nat.mul_one] at hc ht hs
  refine ⟨fun b o=>if b=g then (l.map f)[o]? else Φ b o,?_,?_,?_,?_⟩
  ·intro b o u e
   by_cases hbg:b=g
   ·subst hbg
    simp only [if_true] at e
    rw [←ht,List.getElem?_take] at e
    split at e
    ·simp only [World.cell?,hgg];simpa using e
    ·cases e
   ·simp only [if_neg hbg] at e;exact himm' b o u e
  ·intro b o hbo;simp only;rw [if_neg (by omega)]
  ·have hlen:(Value.slice (some ⟨g,0,none⟩) (l.map f).length cap) = .slice (some ⟨g,0,none⟩) l.length cap:=by simp
   rw [hlen]
   refine .sl _ _ _ _ g 0 cap (fun j=>((l.map f)[j]?).getD undef) (by simp) hc hm (fun j hj=>?_) (fun j c hcj=>?_)
   ·have hj' : j < l.length:=by simpa using hj
    simp [hj']
   ·rw [List.getElem?_map] at hcj
    obtain ⟨x,hx,rfl⟩:=Option.map_eq_some_iff.1 hcj
    simp only [List.getElem?_map,hx,Option.map_some,Option.getD_some]
    exact .val _ (hplain x)
  ·refine .inr (.inl ⟨g,cap,cur,by simp,hBg,hgg,hc,hm,by simpa using hs,rfl,hE,fun j hj=>?_⟩)
   simp only [if_true]
   rw [List.getElem?_eq_none (by simp;omega)]
theorem post_own {w' : World} {E:TypeId} {v:Value} {α:Type} {f:α→Value} {l:List α} (hplain:∀x,plainV (f x)=true) (ho:Own w.heap.size E w' v (l.map f)) (hb:Below w.heap.size w w') (hE:E < 1000000:=by decide):CallPost Φ w (· = .sl l.length 1 (l.map fun x=>.val (f x)) (some E)) (.returned v) w':=by
 obtain ⟨Φ',h1,h2,h3,h4⟩:=own_rep himm hplain ho hb hE
 refine ⟨_,v,Φ',rfl,rfl,h3,h1,h2,hb,fun n k cs E' e=>?_⟩
 cases e
 exact h4
end
theorem pcalls1 {P:Program} {f:FuncId} {p:PV} {post:PV→Prop} (hc:callB P f=true) (h:∀(Φ:Imm) (μ:Nat→Option Nat) (w:World) (v:Value),(∀b o u,Φ b o=some u→w.cell? ⟨b,o,none⟩=some u)→Rep Φ μ p v→Calls P f #[v] w (CallPost Φ w post)):PCalls P f [p] post:=by
 refine ⟨hc,fun Φ μ w vs himm hgl hr=>?_⟩
 match vs,hr with
 | [v],hr=>exact h Φ μ w v himm (hr.2 0 _ _ rfl rfl)
 | [],hr=>exact absurd hr.1 (by simp)
 |_ :: _ :: _,hr=>exact absurd hr.1 (by simp)
end Go.Proofs.YtoamkpgaaanafaaGreat

/- How a law's arguments are opened, whatever their types; a law's row out of its contract over pure values. -/
namespace Go.Proofs.YtoamkpgaaanafaaGreat
set_option linter.unusedSimpArgs false
set_option linter.unusedVariables false
set_option linter.unnecessarySimpa false
open Go.ChangeShapes Go.WideShapes Go.ChangeAt Go.RowKit
def immW (W:World):Imm:=fun b o=>W.cell? ⟨b,o,none⟩
theorem RepL.append {Φ:Imm} {μ:Nat→Option Nat} {cs ds:List PV} {us vs:List Value} (h:RepL Φ μ cs us) (k:RepL Φ μ ds vs):RepL Φ μ (cs ++ ds) (us ++ vs):=by
 refine ⟨by simp [h.1,k.1],fun j c u h1 h2=>?_⟩
 by_cases hj:j < cs.length
 ·rw [List.getElem?_append_left hj] at h1
  rw [List.getElem?_append_left (by rw [h.1];exact hj)] at h2
  exact h.2 j c u h1 h2
 ·rw [List.getElem?_append_right (by omega)] at h1
  rw [List.getElem?_append_right (by rw [h.1];omega),h.1] at h2
  exact k.2 _ c u h1 h2
def Opens (P:Program) (t:TypeId) {α:Type} (en:α→List PV) (ok:α→Prop):Prop:=
 ∀(H:Type) (enc:TypeId×Value→H) (W:World) (fuel:Nat) (cs:List Value) (d:DataW H) (pl:List MemPlace),
  DataW.trod enc P W 0 (fun _=>true) true fuel t cs=some (d,pl)→(∀n∈d.weights P t,n≤reachBytes)→∃y:α,ok y∧RepL (immW W) mu0 (en y) cs
section
variable {P:Program} {t e:TypeId}
theorem Opens.map {α β:Type} {en:α→List PV} {ok:α→Prop} (h:Opens P t en ok) (g:α→β) {en' : β→List PV} {ok' : β→Prop} (hen:∀a,ok a→en' (g a)=en a) (hok:∀a,ok a→ok' (g a)):Opens P t en' ok':=by
 intro H enc W fuel cs d pl h1 h2
 obtain ⟨y,k1,k2⟩:=h H enc W fuel cs d pl h1 h2
 exact ⟨g y,hok y k1,by rw [hen y k1];exact k2⟩
theorem opens_int {k:IntKind} (ht:P.underlying t=some (.int k)):Opens P t (fun z:Int => [.val (.int k z)]) (fun z=>(Lit.int k z).wf=true):=by
 intro H enc W fuel cs d pl h hw
 obtain ⟨n,rfl,hx,hwf⟩:=DataW.trod_int ht h
 exact ⟨n,hwf,RepL.cons (.val _ rfl) RepL.nil⟩
theorem opens_str (ht:P.underlying t=some .string):Opens P t (fun b:ByteArray => [.val (.string b)]) (fun b=>b.size≤reachBytes):=by
 intro H enc W fuel cs d pl h hw
 obtain ⟨s,rfl,hx,hs⟩:=DataW.trod_string ht h
 refine ⟨s,?_,RepL.cons (.val _ rfl) RepL.nil⟩
 cases hx
 have:=hw s.data.toList.length (by simp [DataW.weights])
 simpa using this
theorem weights_mem {H:Type} {e:TypeId} : ∀{l:List (DataW H)} {d:DataW H},d∈l→∀n∈d.weights P e,n∈DataW.weightsAll P e l
 |x :: l,d,h,n,hn=>by
  rw [DataW.weightsAll,List.mem_append]
  rcases List.mem_cons.1 h with rfl|h
  ·exact .inl hn
  ·exact .inr (weights_mem h n hn)
theorem opens_slice {α:Type} {en:α→List PV} {ok:α→Prop} {k b:Nat} (ht:P.underlying t=some (.slice e)) (hc:P.cellsOf e=k) (hk:0 < k) (hb:P.bytesOf e=b) (he:Opens P e en ok) (hlen:∀x,ok x→(en x).length=k) :
  Opens P t (fun xs:List α => [.sl xs.length k (xs.flatMap en) none]) (fun xs=>(∀x∈xs,ok x)∧xs.length * b≤reachBytes):=by
 intro H enc W fuel cs d pl h hw
 rcases Deep.open_slice ht h with ⟨rfl,hx⟩|⟨a,len,cap,m,n,D,Pl,rfl,-,hl,hm,hmm,hx,hel⟩
 ·exact ⟨[],⟨by simp,by simp⟩,RepL.cons (.sl0 _ _ _ _ (by unfold maxLen;omega)) RepL.nil⟩
 ·simp only [if_true] at hmm
  subst hmm
  cases hx
  have hall:∀i,i < len→∃y:α,ok y∧∃us,W.cells? 0 (a.add (i * P.cellsOf e)) (P.cellsOf e)=some us∧RepL (immW W) mu0 (en y) us:=by
   intro i hi
   obtain ⟨us,h1,h2⟩:=hel i (by omega)
   obtain ⟨y,k1,k2⟩:=he H enc W n us (D i) (Pl i) h2 (fun x hx=>by
    refine hw x ?_
    simp only [DataW.weights,ht,List.mem_cons,List.mem_append]
    exact .inr (.inl (weights_mem (List.mem_map.2 ⟨i,by simpa using hi,rfl⟩) x hx)))
   exact ⟨y,k1,us,h1,k2⟩
  have:∃xs:List α,xs.length=len∧∀i x,xs[i]? = some x→ok x∧∃us,W.cells? 0 (a.add (i * P.cellsOf e)) (P.cellsOf e)=some us∧RepL (immW W) mu0 (en x) us:=by
   have key:∀j,j≤len→∃xs:List α,xs.length=j∧∀i x,xs[i]? = some x→ok x∧∃us,W.cells? 0 (a.add (i * P.cellsOf e)) (P.cellsOf e)=some us∧RepL (immW W) mu0 (en x) us:=by
    intro j
    induction j with
    |zero=>exact fun _=>⟨[],rfl,fun i x hx=>by simp at hx⟩
    |succ j ih=>
     intro hj
     obtain ⟨xs,h1,h2⟩:=ih (by omega)
     obtain ⟨y,k1,k2⟩:=hall j (by omega)
     refine ⟨xs ++ [y],by simp [h1],fun i x hx=>?_⟩
     by_cases hi:i < j
     ·rw [List.getElem?_append_left (by omega)] at hx;exact h2 i x hx
     ·rw [List.getElem?_append_right (by omega)] at hx
      have h0:i - xs.length=0:=by
       have:=(List.getElem?_eq_some_iff.1 hx).1
       simp at this;omega
      rw [h0] at hx;simp at hx;subst hx
      obtain rfl:i=j:=by omega
      exact ⟨k1,k2⟩
   exact key len (Nat.le_refl _)
  obtain ⟨xs,hxl,hxs⟩:=this
  refine ⟨xs,⟨fun x hx=>?_,?_⟩,RepL.cons ?_ RepL.nil⟩
  ·obtain ⟨i,hi⟩:=List.getElem?_of_mem hx
   exact (hxs i x hi).1
  ·have hw1:=hw (((List.range len).map D).length * P.bytesOf e+((List.range (m - len)).map fun j=>D (len+j)).length * P.bytesOf e) (by
    simp only [DataW.weights,ht,List.mem_cons,List.mem_append,Nat.add_mul]
    exact .inl trivial)
   simp only [List.length_map,List.length_range,hb] at hw1
   rw [hxl];omega
  ·by_cases h0:len=0
   ·subst h0
    obtain rfl:xs = []:=List.eq_nil_of_length_eq_zero hxl
    exact .sl0 _ _ _ _ hm
   ·obtain ⟨bl,off,spot⟩:=a
    have hfl:(xs.flatMap en).length=len * k:=by
     rw [←hxl]
     have:∀(l:List α),(∀x∈l,(en x).length=k)→(l.flatMap en).length=l.length * k:=by
      intro l
      induction l with
      |nil=>simp
      |cons x l ih=>intro h;rw [List.flatMap_cons,List.length_append,h x (by simp),ih (fun y hy=>h y (by simp [hy])),List.length_cons,Nat.succ_mul];omega
     exact this xs (fun x hx=>by
      obtain ⟨i,hi⟩:=List.getElem?_of_mem hx
      exact hlen x (hxs i x hi).1)
    have hcell:∀i r,i < len→r < k→∃x u,xs[i]? = some x∧W.cell? (Addr.add (Addr.add ⟨bl,off,spot⟩ (i * k)) r)=some u∧∀c,(en x)[r]? = some c→Rep (immW W) mu0 c u:=by
     intro i r hi hr
     have hix:i < xs.length:=by omega
     obtain ⟨k1,us,k2,k3⟩:=hxs i xs[i] (by simp [hix])
     obtain ⟨-,q2,q3⟩:=World.cells?_some k2
     rw [hc] at q2 q3
     have hru:r < us.length:=by omega
     refine ⟨xs[i],us[r],by simp [hix],by rw [q3 r hr];simp [hru],fun c hcc=>k3.2 r c _ hcc (by simp [hru])⟩
    have hspot:spot=none:=by
     obtain ⟨x,u,-,h2,-⟩:=hcell 0 0 (by omega) hk
     have:=World.cell?_spot h2
     simpa [Addr.add] using this
    subst hspot
    rw [←hxl]
    refine .sl xs.length k _ none bl off m (fun j=>(W.cell? ⟨bl,off+j,none⟩).getD undef) (by rw [hfl,hxl]) (by omega) hm (fun j hj=>?_) (fun j c hj=>?_)
    ·rw [hfl] at hj
     have hq:j / k < len:=by rw [Nat.div_lt_iff_lt_mul hk];exact hj
     obtain ⟨x,u,-,h2,-⟩:=hcell (j / k) (j % k) hq (Nat.mod_lt _ hk)
     rw [Addr.add_lit,Addr.add_lit,Nat.add_assoc,Nat.mul_comm,Nat.div_add_mod] at h2
     simp only [immW,h2,Option.getD_some]
    ·have hjl:=(List.getElem?_eq_some_iff.1 hj).1
     rw [hfl] at hjl
     have hq:j / k < len:=by rw [Nat.div_lt_iff_lt_mul hk];exact hjl
     obtain ⟨x,u,h1,h2,h3⟩:=hcell (j / k) (j % k) hq (Nat.mod_lt _ hk)
     rw [Addr.add_lit,Addr.add_lit,Nat.add_assoc,Nat.mul_comm,Nat.div_add_mod] at h2
     rw [h2,Option.getD_some]
     refine h3 c ?_
     have hxk:∀x∈xs,(en x).length=k:=fun x hx=>by
      obtain ⟨i,hi⟩:=List.getElem?_of_mem hx
      exact hlen x (hxs i x hi).1
     have gen:∀(l:List α) (i r:Nat) (x:α),(∀x∈l,(en x).length=k)→l[i]? = some x→r < k→(l.flatMap en)[i * k+r]? = (en x)[r]?:=by
      intro l
      induction l with
      |nil=>intro i r x _ h;simp at h
      |cons y l ih=>
       intro i r x hl h hr
       rw [List.flatMap_cons]
       cases i with
       |zero=>
        simp at h;subst h
        rw [Nat.zero_mul,Nat.zero_add,List.getElem?_append_left (by rw [hl y (by simp)];exact hr)]
       |succ i=>
        simp at h
        have:=ih i r x (fun z hz=>hl z (by simp [hz])) h hr
        rw [List.getElem?_append_right (by rw [hl y (by simp),Nat.succ_mul];omega),hl y (by simp),←this]
        congr 1
        rw [Nat.succ_mul];omega
     rw [←gen xs (j / k) (j % k) x hxk h1 (Nat.mod_lt _ hk),Nat.mul_comm,Nat.div_add_mod]
     exact hj
def OpensFs (P:Program) (fs:List Field) (o m:Nat) {α:Type} (en:α→List PV) (ok:α→Prop):Prop:=
 ∀(H:Type) (enc:TypeId×Value→H) (W:World) (n:Nat) (cs:List Value) (xs:List (DataW H×List MemPlace)),xs.length=fs.length→(∀(i:Nat) (f:Field),fs[i]? = some f→DataW.trod enc P W 0 (fun _=>true) true n f.type ((cs.drop f.offset).take (P.cellsOf f.type))=xs[i]?) →
  (∀k∈DataW.weightsEach P (fs.map (·.type)) (xs.map (·.1)),k≤reachBytes)→∃y:α,ok y∧RepL (immW W) mu0 (en y) ((cs.drop o).take m)
theorem opensFs_nil {o:Nat} : OpensFs P [] o 0 (fun _:Unit => []) (fun _=>True):=by
 intro H enc W n cs xs _ _ _
 exact ⟨(),trivial,by simpa using RepL.nil⟩
theorem opensFs_cons {f:Field} {fs:List Field} {o k m:Nat} {α β:Type} {en1:α→List PV} {ok1:α→Prop} {en2:β→List PV} {ok2:β→Prop} (ho:f.offset=o) (hk:P.cellsOf f.type=k) (h1:Opens P f.type en1 ok1) (h2:OpensFs P fs (o+k) m en2 ok2) :
  OpensFs P (f :: fs) o (k+m) (fun p:α×β=>en1 p.1 ++ en2 p.2) (fun p=>ok1 p.1∧ok2 p.2):=by
 intro H enc W n cs xs hl hx hw
 cases xs with
 |nil=>simp at hl
 |cons x xs=>
  have e0:=hx 0 f rfl
  rw [ho,hk] at e0
  obtain ⟨y,k1,k2⟩:=h1 H enc W n _ x.1 x.2 e0 (fun z hz=>hw z (by simp only [List.map_cons,DataW.weightsEach,List.mem_append];exact .inl hz))
  obtain ⟨z,k3,k4⟩:=h2 H enc W n cs xs (by simpa using hl) (fun i g hg=>by have:=hx (i+1) g (by simpa using hg);simpa using this) (fun z hz=>hw z (by simp only [List.map_cons,DataW.weightsEach,List.mem_append];exact .inr hz))
  refine ⟨(y,z),⟨k1,k3⟩,?_⟩
  rw [List.take_add,List.drop_drop]
  exact k2.append k4
theorem opensFs_1 {f:Field} {fs:List Field} {o m:Nat} {α β:Type} {en1:α→List PV} {ok1:α→Prop} {en2:β→List PV} {ok2:β→Prop} (ho:f.offset=o) (h1:Opens P f.type en1 ok1) (hk:P.cellsOf f.type=1) (h2:OpensFs P fs (o+1) m en2 ok2) :
  OpensFs P (f :: fs) o (m+1) (fun p:α×β=>en1 p.1 ++ en2 p.2) (fun p=>ok1 p.1∧ok2 p.2):=by
 rw [Nat.add_comm m 1];exact opensFs_cons ho hk h1 h2
theorem opens_struct {fs:Array Field} {m:Nat} {α:Type} {en:α→List PV} {ok:α→Prop} (ht:P.underlying t=some (.struct fs)) (hf:OpensFs P fs.toList 0 m en ok) (hc:P.cellsOf t=m):Opens P t en ok:=by
 intro H enc W fuel cs d pl h hw
 obtain ⟨xs,n,rfl,hx,h3,h4,h5⟩:=DataW.trod_struct ht h
 cases hx
 obtain ⟨y,k1,k2⟩:=hf H enc W n cs xs (by simpa using h4) (fun i f hf=>h5 i f (by simpa using hf)) (fun z hz=>hw z (by simpa only [DataW.weights,ht] using hz))
 refine ⟨y,k1,?_⟩
 rwa [List.drop_zero,List.take_of_length_le (by omega)] at k2
def ArgOpens (P:Program) (t:TypeId) {α:Type} (pe:α→PV) (ok:α→Prop):Prop:=
 ∀(H:Type) (enc:TypeId×Value→H) (W:World) (base:Nat) (v:Value) (d:DataW H) (pl:List MemPlace),Value.okWide P W .any base t v→DataW.Trod enc P W 0 (fun _=>true) true t v d pl→(∀n∈d.weights P t,n≤reachBytes)→∃y:α,ok y∧Rep (immW W) mu0 (pe y) v
theorem arg_struct {fs:Array Field} {α:Type} {en:α→List PV} {ok:α→Prop} (ht:P.underlying t=some (.struct fs)) (h0:Opens P t en ok):ArgOpens P t (fun x=>.agg (en x)) ok:=by
 intro H enc W base v d pl hv ⟨fuel,h⟩ hw
 obtain ⟨cs,rfl,-⟩:=okWide_struct ht hv
 obtain ⟨y,k1,k2⟩:=h0 H enc W fuel _ d pl h hw
 refine ⟨y,k1,?_⟩
 have:=k2.agg
 simpa [Value.cells] using this
theorem ArgOpens.map {α β:Type} {pe:α→PV} {ok:α→Prop} (h:ArgOpens P t pe ok) (g:α→β) {pe' : β→PV} {ok' : β→Prop} (hen:∀a,ok a→pe' (g a)=pe a) (hok:∀a,ok a→ok' (g a)):ArgOpens P t pe' ok':=by
 intro H enc W base v d pl h0 h1 h2
 obtain ⟨y,k1,k2⟩:=h H enc W base v d pl h0 h1 h2
 exact ⟨g y,hok y k1,by rw [hen y k1];exact k2⟩
def ArgsOpen (P:Program) (ts:List TypeId) {α:Type} (en:α→List PV) (ok:α→Prop):Prop:=
 ∀(H:Type) (enc:TypeId×Value→H) (W:World) (base:Nat) (vs:List Value) (ds:List (DataW H)) (pl:List MemPlace),(∀(j:Nat) t v,ts[j]? = some t→vs[j]? = some v→Value.okWide P W .any base t v)→DataW.TrodAll enc P W 0 (fun _=>true) true ts vs ds pl →
  (∀n∈DataW.weightsEach P ts ds,n≤reachBytes)→ds.length=ts.length∧∃y:α,ok y∧RepL (immW W) mu0 (en y) vs
theorem argsOpen_nil:ArgsOpen P [] (fun _:Unit => []) (fun _=>True):=by
 intro H enc W base vs ds pl _ h _
 obtain ⟨rfl,rfl,rfl⟩:=trodAll_nil h
 exact ⟨rfl,(),trivial,RepL.nil⟩
theorem argsOpen_cons {ts:List TypeId} {α β:Type} {pe:α→PV} {ok1:α→Prop} {en:β→List PV} {ok2:β→Prop} (h1:ArgOpens P t pe ok1) (h2:ArgsOpen P ts en ok2):ArgsOpen P (t :: ts) (fun p:α×β=>pe p.1 :: en p.2) (fun p=>ok1 p.1∧ok2 p.2):=by
 intro H enc W base vs ds pl hv h hw
 match vs,ds,h with
 |v :: vs,d :: ds,h=>
  obtain ⟨p,q,g1,g2,-⟩:=h
  obtain ⟨y,k1,k2⟩:=h1 H enc W base v d p (hv 0 t v rfl rfl) g1 (fun z hz=>hw z (by simp only [DataW.weightsEach,List.mem_append];exact .inl hz))
  obtain ⟨hl,z,k3,k4⟩:=h2 H enc W base vs ds q (fun j t v e1 e2=>hv (j+1) t v (by simpa using e1) (by simpa using e2)) g2 (fun z hz=>hw z (by simp only [DataW.weightsEach,List.mem_append];exact .inr hz))
  exact ⟨by simp [hl],(y,z),⟨k1,k3⟩,RepL.cons k2 k4⟩
 | [],[],h=>simp [DataW.TrodAll] at h
 | [],_ :: _,h=>simp [DataW.TrodAll] at h
 |_ :: _,[],h=>simp [DataW.TrodAll] at h
end
set_option maxRecDepth 100000 in
theorem law_lifted {f:FuncId} {fn:Func} {s:ChangeSpec} {conds:List PathCond} {tb:TypeId} {α:Type} {en:α→List PV} {ok:α→Prop} (os:Os) (started:os.Started) (H:Type) (enc:TypeId×Value→H) (hfn:Tryz.checked.prog.funcs[f]? = some fn) (noInit:Tryz.checked.prog.inits.idxOf? f=none)
  (witness:∃(w:World) (tape:Tape) (i:Input),w.os=os∧(w.forCall tape i).Shaped Tryz.checked.prog∧i.vars = []∧Input.okWide Tryz.checked.prog (w.forCall tape i) .any w.heap.size f i ∧
   s.pre6 enc Tryz.checked.prog fn conds false (w.forCall tape i).memory i.args∧({} : Assume).holds Tryz.checked.prog (lone (Frame.enter Tryz.checked.prog f i.args .normal) [] (w.forCall tape i)))
  (htb:Tryz.prog.underlying tb=some .bool) (hres:fn.resultTypes = #[tb]) (hvars:s.vars = []) (hread:fn.params.toList.all (fun t=>Tryz.prog.readableRec t && decide (t < Tryz.prog.types.size))=true)
  (hspec:∀ds:List (DataW H),ds.length=fn.params.size→(s.fn H (ds ++ [])).results = [.lit (.bool true)]∧(s.fn H (ds ++ [])).args=ds∧(s.fn H (ds ++ [])).vars = [])
  (hargs:ArgsOpen Tryz.prog fn.params.toList en ok) (hc:∀y,ok y→PCalls Tryz.prog f (en y) (· = pbool true)) (hgt:globTab = []:=by rfl) :
  ReturnsInHanded {} Tryz.checked os f .any (s.pre6 enc Tryz.prog fn conds false) (s.post enc Tryz.prog fn false true false false):=by
 refine returnsInHanded_of_change_sized (C:=Tryz.checked) own started noInit hfn witness ?_
 intro W base args ds gs before hval0 hW _ hsz _
 have hval:∀(j:Nat) t v,fn.params[j]? = some t→args[j]? = some v→Value.okWide Tryz.prog W .any base t v:=hval0
 have hW':=hW
 obtain ⟨p,q,hA,hV,rfl,_,_⟩:=hW
 rw [hvars] at hV
 obtain ⟨rfl,rfl⟩:=trodVars_none hV
 have hvt:s.plain.varTypes Tryz.prog = []:=by simp [ChangeSpec.plain,DataSpec.varTypes,hvars]
 rw [show s.plain.varTypes Tryz.checked.prog = [] from hvt,List.append_nil,List.append_nil,List.all_eq_true] at hsz
 obtain ⟨hl,y,hy,hr⟩:=hargs H enc W base args.toList ds p (fun j t v h1 h2=>hval j t v (by simpa using h1) (by simpa using h2)) hA (fun n hn=>of_decide_eq_true (hsz n hn))
 obtain ⟨s1,s2,s3⟩:=hspec ds (by simpa using hl)
 have hcall:=(hc y hy).2 (immW W) mu0 W args.toList (fun b o u h=>h) (fun x hx=>by rw [hgt] at hx;cases hx) hr
 rw [Array.toArray_toList] at hcall
 refine hcall.mono ?_
 rintro e W' ⟨r,v,Φ',rfl,rfl,hrep,-,-,hb,-⟩
 obtain ⟨rfl,-⟩:=hrep.val_inv
 exact ⟨_,rfl,post_law laidOut htb hres hvars hread hW' s1 s2 s3 hb⟩
end Go.Proofs.YtoamkpgaaanafaaGreat

/- Plain lists: what the functions of the packages bits and antiquaryref11 compute, and lemmas on it. No program in sight. -/
namespace Go.Proofs.YtoamkpgaaanafaaGreat
set_option linter.unusedSimpArgs false
set_option linter.unusedVariables false
set_option linter.unnecessarySimpa false
theorem drop_one {α:Type} (zs:List α) (k:Nat) (a:α) (ha:zs[k]? = some a):zs.drop k=a :: zs.drop (k+1):=by
 obtain ⟨hk,rfl⟩:=List.getElem?_eq_some_iff.1 ha
 rw [List.drop_eq_getElem_cons (by omega)]
def mergeF (r:Bool→Bool→Bool):Nat→List Int→List Int→Bool→Bool→Bool→List Int
 |0,_,_,_,_,_ => []
 |_+1,[],[],_,_,_ => []
 |n+1,a :: az,[],pa,pb,po=>if r (!pa) pb != po then a :: mergeF r n az [] (!pa) pb (!po) else mergeF r n az [] (!pa) pb po
 |n+1,[],b :: bs,pa,pb,po=>if r pa (!pb) != po then b :: mergeF r n [] bs pa (!pb) (!po) else mergeF r n [] bs pa (!pb) po
 |n+1,a :: az,b :: bs,pa,pb,po=>
  if a < b then (if r (!pa) pb != po then a :: mergeF r n az (b :: bs) (!pa) pb (!po) else mergeF r n az (b :: bs) (!pa) pb po)
  else if b < a then (if r pa (!pb) != po then b :: mergeF r n (a :: az) bs pa (!pb) (!po) else mergeF r n (a :: az) bs pa (!pb) po)
  else (if r (!pa) (!pb) != po then a :: mergeF r n az bs (!pa) (!pb) (!po) else mergeF r n az bs (!pa) (!pb) po)
def mergeL (r:Bool→Bool→Bool) (az bs:List Int):List Int:=mergeF r (az.length+bs.length) az bs false false false
theorem mergeF_nil (r:Bool→Bool→Bool) (n:Nat) (pa pb po:Bool):mergeF r n [] [] pa pb po = []:=by cases n<;>rfl
theorem mergeF_left (r:Bool→Bool→Bool) (n:Nat) (a:Int) (az:List Int) (pa pb po:Bool) :
  mergeF r (n+1) (a :: az) [] pa pb po=if r (!pa) pb != po then a :: mergeF r n az [] (!pa) pb (!po) else mergeF r n az [] (!pa) pb po:=rfl
theorem mergeF_right (r:Bool→Bool→Bool) (n:Nat) (b:Int) (bs:List Int) (pa pb po:Bool) :
  mergeF r (n+1) [] (b :: bs) pa pb po=if r pa (!pb) != po then b :: mergeF r n [] bs pa (!pb) (!po) else mergeF r n [] bs pa (!pb) po:=rfl
theorem mergeF_more (r:Bool→Bool→Bool):∀(n:Nat) (az bs:List Int) (pa pb po:Bool),az.length+bs.length≤n→mergeF r (n+1) az bs pa pb po=mergeF r n az bs pa pb po
 |0,az,bs,pa,pb,po,h=>by
  have h1:az = []:=List.eq_nil_of_length_eq_zero (by omega)
  have h2:bs = []:=List.eq_nil_of_length_eq_zero (by omega)
  subst h1;subst h2;rfl
 |n+1,az,bs,pa,pb,po,h=>by
  match az,bs with
  | [],[]=>rfl
  |a :: az,[]=>
   have:=fun po=>mergeF_more r n az [] (!pa) pb po (by simp at h ⊢; omega)
   rw [mergeF_left,mergeF_left,this,this]
  | [],b :: bs=>
   have:=fun po=>mergeF_more r n [] bs pa (!pb) po (by simp at h ⊢; omega)
   rw [mergeF_right,mergeF_right,this,this]
  |a :: az,b :: bs=>
   have h1:=fun po=>mergeF_more r n az (b :: bs) (!pa) pb po (by simp at h ⊢; omega)
   have h2:=fun po=>mergeF_more r n (a :: az) bs pa (!pb) po (by simp at h ⊢; omega)
   have h3:=fun po=>mergeF_more r n az bs (!pa) (!pb) po (by simp at h ⊢; omega)
   simp only [mergeF.eq_5,h1,h2,h3]
def MergeAt (r:Bool→Bool→Bool) (az bs:List Int) (i k:Nat) (out:List Int):Prop:=
 mergeL r az bs=out ++ mergeF r (az.length - i+(bs.length - k)) (az.drop i) (bs.drop k) (decide (i % 2=1)) (decide (k % 2=1)) (decide (out.length % 2=1))
theorem MergeAt.done {r:Bool→Bool→Bool} {az bs:List Int} {i k:Nat} {out:List Int} (h:MergeAt r az bs i k out) (hi:az.length≤i) (hk:bs.length≤k):mergeL r az bs=out:=by
 rw [MergeAt,List.drop_eq_nil_of_le hi,List.drop_eq_nil_of_le hk,mergeF_nil] at h
 simpa using h
theorem odd_succ (i:Nat):decide ((i+1) % 2=1) = !decide (i % 2=1):=by
 by_cases h:i % 2=1
 ·have:(i+1) % 2=0:=by omega
  simp [h,this]
 ·have:(i+1) % 2=1:=by omega
  simp [h,this]
def addIf (c:Bool) (out:List Int) (x:Int):List Int:=if c then out ++ [x] else out
theorem MergeAt.left {r:Bool→Bool→Bool} {az bs:List Int} {i k:Nat} {out:List Int} (h:MergeAt r az bs i k out) (x:Int) (hx:az[i]? = some x) (hk:bs.length≤k∨∃y,bs[k]? = some y∧x < y) (c:Bool)
  (hc:c=(r (decide ((i+1) % 2=1)) (decide (k % 2=1)) != decide (out.length % 2=1))):MergeAt r az bs (i+1) k (addIf c out x):=by
 obtain ⟨hi,_⟩:=List.getElem?_eq_some_iff.1 hx
 unfold MergeAt at h ⊢
 rw [h]
 have e1:az.length - i+(bs.length - k)=(az.length - (i+1)+(bs.length - k))+1:=by omega
 rw [e1,drop_one az i x hx]
 rw [odd_succ] at hc
 have step:mergeF r (az.length - (i+1)+(bs.length - k)+1) (x :: az.drop (i+1)) (bs.drop k) (decide (i % 2=1)) (decide (k % 2=1)) (decide (out.length % 2=1)) =
   if c then x :: mergeF r (az.length - (i+1)+(bs.length - k)) (az.drop (i+1)) (bs.drop k) (!decide (i % 2=1)) (decide (k % 2=1)) (!decide (out.length % 2=1))
   else mergeF r (az.length - (i+1)+(bs.length - k)) (az.drop (i+1)) (bs.drop k) (!decide (i % 2=1)) (decide (k % 2=1)) (decide (out.length % 2=1)):=by
  rcases hk with hk|⟨y,hy,hxy⟩
  ·rw [List.drop_eq_nil_of_le hk,mergeF_left,hc]
  ·rw [drop_one bs k y hy,mergeF.eq_5,if_pos hxy,hc]
 rw [step,odd_succ]
 cases c
 ·simp [addIf]
 ·simp only [addIf,if_true,List.length_append,List.length_cons,List.length_nil,Nat.zero_add,odd_succ,List.append_assoc,List.cons_append,List.nil_append]
theorem MergeAt.right {r:Bool→Bool→Bool} {az bs:List Int} {i k:Nat} {out:List Int} (h:MergeAt r az bs i k out) (x:Int) (hx:bs[k]? = some x) (hk:az.length≤i∨∃y,az[i]? = some y∧x < y) (c:Bool)
  (hc:c=(r (decide (i % 2=1)) (decide ((k+1) % 2=1)) != decide (out.length % 2=1))):MergeAt r az bs i (k+1) (addIf c out x):=by
 obtain ⟨hi,_⟩:=List.getElem?_eq_some_iff.1 hx
 unfold MergeAt at h ⊢
 rw [h]
 have e1:az.length - i+(bs.length - k)=(az.length - i+(bs.length - (k+1)))+1:=by omega
 rw [e1,drop_one bs k x hx]
 rw [odd_succ] at hc
 have step:mergeF r (az.length - i+(bs.length - (k+1))+1) (az.drop i) (x :: bs.drop (k+1)) (decide (i % 2=1)) (decide (k % 2=1)) (decide (out.length % 2=1)) =
   if c then x :: mergeF r (az.length - i+(bs.length - (k+1))) (az.drop i) (bs.drop (k+1)) (decide (i % 2=1)) (!decide (k % 2=1)) (!decide (out.length % 2=1))
   else mergeF r (az.length - i+(bs.length - (k+1))) (az.drop i) (bs.drop (k+1)) (decide (i % 2=1)) (!decide (k % 2=1)) (decide (out.length % 2=1)):=by
  rcases hk with hk|⟨y,hy,hxy⟩
  ·rw [List.drop_eq_nil_of_le hk,mergeF_right,hc]
  ·rw [drop_one az i y hy,mergeF.eq_5,if_neg (by omega),if_pos hxy,hc]
 rw [step,odd_succ]
 cases c
 ·simp [addIf]
 ·simp only [addIf,if_true,List.length_append,List.length_cons,List.length_nil,Nat.zero_add,odd_succ,List.append_assoc,List.cons_append,List.nil_append]
theorem MergeAt.both {r:Bool→Bool→Bool} {az bs:List Int} {i k:Nat} {out:List Int} (h:MergeAt r az bs i k out) (x:Int) (hx:az[i]? = some x) (hy:bs[k]? = some x) (c:Bool)
  (hc:c=(r (decide ((i+1) % 2=1)) (decide ((k+1) % 2=1)) != decide (out.length % 2=1))):MergeAt r az bs (i+1) (k+1) (addIf c out x):=by
 obtain ⟨hi,_⟩:=List.getElem?_eq_some_iff.1 hx
 obtain ⟨hj,_⟩:=List.getElem?_eq_some_iff.1 hy
 unfold MergeAt at h ⊢
 rw [h]
 have e1:az.length - i+(bs.length - k)=(az.length - (i+1)+(bs.length - (k+1))+1)+1:=by omega
 rw [e1,drop_one bs k x hy,drop_one az i x hx]
 rw [odd_succ,odd_succ] at hc
 have m:=fun po=>mergeF_more r (az.length - (i+1)+(bs.length - (k+1))) (az.drop (i+1)) (bs.drop (k+1)) (!decide (i % 2=1)) (!decide (k % 2=1)) po (by simp)
 rw [mergeF.eq_5,if_neg (by omega),if_neg (by omega),←hc,m,m,odd_succ,odd_succ]
 cases c
 ·simp [addIf]
 ·simp only [addIf,if_true,List.length_append,List.length_cons,List.length_nil,Nat.zero_add,odd_succ,List.append_assoc,List.cons_append,List.nil_append]
end Go.Proofs.YtoamkpgaaanafaaGreat

/- Plain lists, second part. -/
namespace Go.Proofs.YtoamkpgaaanafaaGreat
set_option linter.unusedSimpArgs false
set_option linter.unusedVariables false
set_option linter.unnecessarySimpa false
end Go.Proofs.YtoamkpgaaanafaaGreat

/- Plain: the differences of borders. -/
namespace Go.Proofs.YtoamkpgaaanafaaGreat
set_option linter.unusedSimpArgs false
set_option linter.unusedVariables false
set_option linter.unnecessarySimpa false
end Go.Proofs.YtoamkpgaaanafaaGreat

/- Plain: the value of digits, for antiquaryref01.GetInt. -/
namespace Go.Proofs.YtoamkpgaaanafaaGreat
set_option linter.unusedSimpArgs false
set_option linter.unusedVariables false
set_option linter.unnecessarySimpa false
def val:List Int→Int
 | []=>0
 |d :: r=>d % 128+128 * val r
end Go.Proofs.YtoamkpgaaanafaaGreat

/- Plain: lists of integers, encoded. -/
namespace Go.Proofs.YtoamkpgaaanafaaGreat
set_option linter.unusedSimpArgs false
set_option linter.unusedVariables false
set_option linter.unnecessarySimpa false
def andThen (out:List Int) (at_:Int) (s:List Int×Int×Int):List Int×Int×Int:=
 if s.2.2≠0 then ([],0,s.2.2) else (out ++ s.1,at_+s.2.1,0)
def intsB (l:List Int):List Int:=intB l.length ++ (l.map intB).flatten
theorem intB_len (n:Int) (h1 : -9223372036854775808≤n) (h2:n≤9223372036854775807):1≤(intB n).length∧(intB n).length≤10:=⟨leb_pos _,leb64 _ (zig_lt n h1 h2)⟩
theorem flat_len (l:List Int) (h:∀z∈l,-9223372036854775808≤z∧z≤9223372036854775807):((l.map intB).flatten).length≤10 * l.length:=by
 induction l with
 |nil=>simp
 |cons a r ih=>
  have h1:=intB_len a (h a (by simp)).1 (h a (by simp)).2
  have h2:=ih (fun z hz=>h z (by simp [hz]))
  simp only [List.map_cons,List.flatten_cons,List.length_append,List.length_cons]
  omega
theorem flat_take (l:List Int) (k:Nat) (a:Int) (h:l[k]? = some a):((l.take (k+1)).map intB).flatten=((l.take k).map intB).flatten ++ intB a:=by
 rw [List.take_add_one,h];simp
end Go.Proofs.YtoamkpgaaanafaaGreat

/- Plain: Decode. -/
namespace Go.Proofs.YtoamkpgaaanafaaGreat
set_option linter.unusedSimpArgs false
set_option linter.unusedVariables false
set_option linter.unnecessarySimpa false
end Go.Proofs.YtoamkpgaaanafaaGreat

/- Plain: how many borders are not greater than a number. -/
namespace Go.Proofs.YtoamkpgaaanafaaGreat
set_option linter.unusedSimpArgs false
set_option linter.unusedVariables false
set_option linter.unnecessarySimpa false
end Go.Proofs.YtoamkpgaaanafaaGreat

/- Plain: sets as lists of borders: they are equal if they have the same slots; what Bits and merge make are sets. -/
namespace Go.Proofs.YtoamkpgaaanafaaGreat
set_option linter.unusedSimpArgs false
set_option linter.unusedVariables false
set_option linter.unnecessarySimpa false
end Go.Proofs.YtoamkpgaaanafaaGreat

/- Plain: what is encoded is decoded, and the other way round. -/
namespace Go.Proofs.YtoamkpgaaanafaaGreat
set_option linter.unusedSimpArgs false
set_option linter.unusedVariables false
set_option linter.unnecessarySimpa false
end Go.Proofs.YtoamkpgaaanafaaGreat

/- Plain: byte strings, encoded and decoded. -/
namespace Go.Proofs.YtoamkpgaaanafaaGreat
set_option linter.unusedSimpArgs false
set_option linter.unusedVariables false
set_option linter.unnecessarySimpa false
def bytesL (s:ByteArray):List Int:=s.data.toList.map fun b=>(b.toNat:Int)
def strOf (bs:List Int):ByteArray:=bs.foldl (fun r n=>r.push (UInt8.ofNat n.toNat)) ByteArray.empty
theorem bytesL_len (s:ByteArray):(bytesL s).length=s.size:=by simp [bytesL]
theorem ba_ext {a b:ByteArray} (h:a.data.toList=b.data.toList):a=b:=by
 cases a with|mk x=>cases b with|mk y=>cases x;cases y;simp at h;subst h;rfl
def strB (s:ByteArray):List Int:=intB s.size ++ bytesL s
def strsB (l:List ByteArray):List Int:=intB l.length ++ (l.map strB).flatten
def SmallStrs (l:List ByteArray):Prop:=∀s∈l,s.size≤1000000
theorem strB_len (s:ByteArray) (h:s.size≤1000000):1≤(strB s).length∧(strB s).length≤1000010:=by
 have:=intB_len s.size (by omega) (by omega)
 rw [strB,List.length_append,bytesL_len];omega
theorem strs_len (l:List ByteArray) (h:SmallStrs l):((l.map strB).flatten).length≤1000010 * l.length:=by
 induction l with
 |nil=>simp
 |cons a r ih=>
  have h1:=strB_len a (h a (by simp))
  have h2:=ih (fun z hz=>h z (by simp [hz]))
  simp only [List.map_cons,List.flatten_cons,List.length_append,List.length_cons]
  omega
theorem strs_take (l:List ByteArray) (k:Nat) (a:ByteArray) (h:l[k]? = some a):((l.take (k+1)).map strB).flatten=((l.take k).map strB).flatten ++ strB a:=by
 rw [List.take_add_one,h];simp
/- What is encoded is decoded. -/
/- What is decoded is encoded. -/
end Go.Proofs.YtoamkpgaaanafaaGreat

/- Plain: attributes, definitions, schemas and entries, as attr and antiquaryref13 have them. -/
namespace Go.Proofs.YtoamkpgaaanafaaGreat
set_option linter.unusedSimpArgs false
set_option linter.unusedVariables false
set_option linter.unnecessarySimpa false
open Go
structure PAttr where
 name:ByteArray
 kind:Int
 n:Int
 s:ByteArray
structure PDef where
 name:ByteArray
 kind:Int
 lo:Int
 hi:Int
 words:List ByteArray
structure PSchema where
 dims:Int
 metric:Int
 defs:List PDef
structure PEntry where
 id:Int
 ver:Int
 owner:Int
 filed:Int
 frm:Int
 to:Int
 born:Int
 vec:List Int
 attrs:List PAttr
def eqB (a b:ByteArray):Bool:=a.toList == b.toList
def leqB (a b:ByteArray):Bool:=Op.bytesLess a.toList b.toList || a.toList == b.toList
theorem eqB_comm (a b:ByteArray):eqB a b=eqB b a:=by
 unfold eqB
 rw [Bool.eq_iff_iff];simp only [beq_iff_eq];exact eq_comm
def hasB (l:List ByteArray) (s:ByteArray):Bool:=l.any (fun x=>eqB x s)
def idxGo:List Bool→Int→Int
 | [],_ => -1
 |b :: r,k=>if b then k else idxGo r (k+1)
def idxB (l:List Bool):Int:=idxGo l 0
theorem idxGo_drop (l:List Bool) (k:Nat) (b:Bool) (h:l[k]? = some b):idxGo (l.drop k) k=if b then (k:Int) else idxGo (l.drop (k+1)) ((k+1:Nat):Int):=by
 obtain ⟨hk,rfl⟩:=List.getElem?_eq_some_iff.1 h
 rw [List.drop_eq_getElem_cons (by omega),idxGo];rfl
theorem idxGo_end (l:List Bool) (k:Nat) (h:l.length≤k):idxGo (l.drop k) k = -1:=by
 rw [List.drop_eq_nil_of_le h,idxGo]
theorem idxGo_bd:∀(l:List Bool) (k:Int),0≤k→(idxGo l k = -1∧l.any id=false)∨(k≤idxGo l k∧idxGo l k < k+l.length∧l.any id=true)
 | [],k,_=>.inl ⟨rfl,rfl⟩
 |b :: r,k,hk=>by
  rw [idxGo]
  cases b
  ·rcases idxGo_bd r (k+1) (by omega) with ⟨h1,h2⟩|⟨h1,h2,h3⟩
   ·exact .inl ⟨by simpa using h1,by simpa using h2⟩
   ·exact .inr ⟨by simp;omega,by simp;omega,by simpa using h3⟩
  ·exact .inr ⟨by simp,by simp;omega,by simp⟩
theorem idxB_any (l:List Bool):decide (0≤idxB l)=l.any id:=by
 rcases idxGo_bd l 0 (by omega) with ⟨h1,h2⟩|⟨h1,h2,h3⟩
 ·rw [h2,idxB,h1];rfl
 ·rw [h3,decide_eq_true_eq,idxB];exact h1
theorem idxB_lt (l:List Bool) (h:0≤idxB l):idxB l < l.length:=by
 rcases idxGo_bd l 0 (by omega) with ⟨h1,h2⟩|⟨h1,h2,h3⟩
 ·rw [idxB,h1] at h;omega
 ·rw [idxB];omega
theorem idxB_ge (l:List Bool) : -1≤idxB l:=by
 rcases idxGo_bd l 0 (by omega) with ⟨h1,h2⟩|⟨h1,h2,h3⟩<;>rw [idxB]<;>omega
def firstE:List (Bool×Int)→Int
 | []=>0
 |(b,e) :: r=>if b then e else firstE r
theorem firstE_drop (l:List (Bool×Int)) (k:Nat) (b:Bool) (e:Int) (h:l[k]? = some (b,e)):firstE (l.drop k)=if b then e else firstE (l.drop (k+1)):=by
 obtain ⟨hk,he⟩:=List.getElem?_eq_some_iff.1 h
 rw [List.drop_eq_getElem_cons (by omega),he,firstE]
theorem firstE_end (l:List (Bool×Int)) (k:Nat) (h:l.length≤k):firstE (l.drop k)=0:=by
 rw [List.drop_eq_nil_of_le h,firstE]
/- Names. -/
def lowI (c:Int):Bool:=decide (97≤c) && decide (c≤122)
def resI (c:Int):Bool:=(decide (48≤c) && decide (c≤57)) || c == 95
def nameGo:Bool→List UInt8→Bool
 |_,[]=>true
 |f,c :: r=>(lowI c.toNat || (!f && resI c.toNat)) && nameGo false r
theorem nameGo_drop (l:List UInt8) (k:Nat) (c:UInt8) (h:l[k]? = some c):nameGo (k == 0) (l.drop k)=((lowI c.toNat || (!(k == 0) && resI c.toNat)) && nameGo (k+1 == 0) (l.drop (k+1))):=by
 obtain ⟨hk,rfl⟩:=List.getElem?_eq_some_iff.1 h
 rw [List.drop_eq_getElem_cons (by omega),nameGo]
 rfl
theorem nameGo_end (l:List UInt8) (k:Nat) (f:Bool) (h:l.length≤k):nameGo f (l.drop k)=true:=by
 rw [List.drop_eq_nil_of_le h,nameGo]
def reserved:List ByteArray := [⟨#[97,108,108]⟩,⟨#[97,110,100]⟩,⟨#[104,97,115]⟩,⟨#[105,110]⟩,⟨#[110,111,116]⟩,⟨#[111,114]⟩]
def nameB (s:ByteArray):Bool:=nameGo true s.data.toList && (decide (1≤s.size) && decide (s.size≤40) && !hasB reserved s)
/- Strictly ascending. -/
def riseGo:ByteArray→List ByteArray→Bool
 |_,[]=>true
 |p,x :: r => !leqB x p && riseGo x r
def riseB:List ByteArray→Bool
 | []=>true
 |x :: r=>riseGo x r
theorem riseGo_drop (l:List ByteArray) (k:Nat) (p x:ByteArray) (h:l[k+1]? = some x):riseGo p (l.drop (k+1))=(!leqB x p && riseGo x (l.drop (k+2))):=by
 obtain ⟨hk,rfl⟩:=List.getElem?_eq_some_iff.1 h
 rw [List.drop_eq_getElem_cons (by omega),riseGo]
theorem riseB_start (l:List ByteArray) (x:ByteArray) (h:l[0]? = some x):riseB l=riseGo x (l.drop 1):=by
 cases l with
 |nil=>simp at h
 |cons a r=>simp at h;subst h;rfl
theorem riseGo_end (l:List ByteArray) (k:Nat) (p:ByteArray) (h:l.length≤k):riseGo p (l.drop k)=true:=by
 rw [List.drop_eq_nil_of_le h,riseGo]
def wordsE (l:List ByteArray):Int:=
 if l.length < 1∨50 < l.length then 2 else if l.any (fun s => !nameB s) then 5 else if riseB l then 0 else 6
def defE (d:PDef) (before:ByteArray):Int:=
 if !nameB d.name then 5
 else if leqB d.name before then 6
 else if d.kind=1 then
  (if d.lo < -1099511627776∨1099511627776 < d.hi∨d.hi < d.lo then 131 else if 0 < d.words.length then 3 else 0)
 else if d.kind=2 then
  (if d.lo≠0∨d.hi≠0 then 3 else wordsE d.words)
 else 130
def defsE:ByteArray→List PDef→Int
 |_,[]=>0
 |b,d :: r=>if defE d b≠0 then defE d b else defsE d.name r
def checkE (s:PSchema):Int:=
 if s.dims < 1∨32 < s.dims∨s.metric < 1∨3 < s.metric then 1
 else if 16 < s.defs.length then 2
 else defsE ByteArray.empty s.defs
def findI (l:List PDef) (nm:ByteArray):Int:=idxB (l.map fun d=>eqB d.name nm)
def valueE (d:PDef) (a:PAttr):Int:=
 if a.kind≠d.kind then 130
 else if a.kind=1 then (if eqB a.s ByteArray.empty=false then 3 else if a.n < d.lo∨d.hi < a.n then 131 else 0)
 else if a.n≠0 then 3
 else if hasB d.words a.s then 0 else 131
def fitE (ds:List PDef) (before:ByteArray) (first:Bool) (a:PAttr):Int:=
 if findI ds a.name < 0 then 5
 else if !first && leqB a.name before then 6
 else match ds[(findI ds a.name).toNat]? with
  |some d=>valueE d a
  |none=>0
def fitsGo (ds:List PDef):ByteArray→Bool→List PAttr→Int
 |_,_,[]=>0
 |b,f,a :: r=>if fitE ds b f a≠0 then fitE ds b f a else fitsGo ds a.name false r
def fitsE (s:PSchema) (l:List PAttr):Int:=fitsGo s.defs ByteArray.empty true l
def zeroA:PAttr:=⟨ByteArray.empty,0,0,ByteArray.empty⟩
def getA:List PAttr→ByteArray→PAttr×Bool
 | [],_=>(zeroA,false)
 |a :: r,nm=>if eqB a.name nm then (a,true) else getA r nm
def validV (v:List Int):Bool:=v.all (fun x=>decide (-1000≤x) && decide (x≤1000)) && (decide (1≤v.length) && decide (v.length≤32))
def entryE (s:PSchema) (e:PEntry):Int:=
 if e.id < 1∨1073741824 < e.id∨e.owner < 1∨1073741824 < e.owner∨e.ver < 1∨1073741824 < e.ver then 1
 else if e.filed < 0∨e.frm < e.filed∨e.to≤e.frm∨1048577 < e.to∨1048576 < e.frm∨e.born < 1∨1073741824 < e.born then 9
 else if validV e.vec=false∨(e.vec.length:Int)≠s.dims then 40
 else fitsE s e.attrs
end Go.Proofs.YtoamkpgaaanafaaGreat

/- Plain: an entry as numbers and strings. -/
namespace Go.Proofs.YtoamkpgaaanafaaGreat
set_option linter.unusedSimpArgs false
set_option linter.unusedVariables false
set_option linter.unnecessarySimpa false
def Fit64 (n:Int):Prop := -9223372036854775808≤n∧n≤9223372036854775807
end Go.Proofs.YtoamkpgaaanafaaGreat

/- The walk of wire.GetInt. -/
namespace Go.Proofs.YtoamkpgaaanafaaGreat
set_option linter.unusedSimpArgs false
set_option linter.unusedVariables false
set_option linter.unnecessarySimpa false
open Go.RowKit
def Ret3 (w:World) (r:Int×Int×Int) (e:Ending) (w' : World):Prop:=
 e = .returned (.tuple #[.int .i64 r.1, .int .i64 r.2.1, .int .i64 r.2.2])∧Still w w'
theorem Ret3.mk {w w' : World} {r:Int×Int×Int} {x y z:Int} (h:r=(x,y,z)) (hs:Still w w'):Ret3 w r (.returned (.tuple #[.int .i64 x, .int .i64 y, .int .i64 z])) w':=by
 subst h;exact ⟨rfl,hs⟩
end Go.Proofs.YtoamkpgaaanafaaGreat

/- The walk of antiquaryref01.GetInt. -/
namespace Go.Proofs.YtoamkpgaaanafaaGreat
set_option linter.unusedSimpArgs false
set_option linter.unusedVariables false
set_option linter.unnecessarySimpa false
open Go.RowKit
end Go.Proofs.YtoamkpgaaanafaaGreat

/- The walks of wire and antiquaryref01: length, Ints. -/
namespace Go.Proofs.YtoamkpgaaanafaaGreat
set_option linter.unusedSimpArgs false
set_option linter.unusedVariables false
set_option linter.unnecessarySimpa false
open Go.RowKit
theorem Byte.all {bs:List Int} (h:Byte bs):∀c∈bs,0≤c∧c < 256:=by
 intro c hc
 obtain ⟨k,hk⟩:=List.getElem?_of_mem hc
 exact h k c hk
theorem Byte.of {bs:List Int} (h:∀c∈bs,0≤c∧c < 256):Byte bs:=fun _ c hk=>h c (List.mem_of_getElem? hk)
def Fit (l:List Int):Prop:=∀z∈l,-9223372036854775808≤z∧z≤9223372036854775807
theorem oneCells (k:IntKind) (l:List Int):∀c∈l.map (Value.int k),c.oneCell' = true:=by
 intro c hc
 obtain ⟨_,_,rfl⟩:=List.mem_map.1 hc
 rfl
set_option maxRecDepth 100000 in
set_option maxHeartbeats 1000000 in
theorem refInts (v:Value) (zs:List Int) (w:World) (hv:Ints w v zs) (hf:Fit zs) (hl:zs.length≤1000000000):Calls Tryz.prog 128 #[v] w (MadeBytes w (intsB zs)):=by
 obtain ⟨a,cap,b,off,rfl,hcap,hm,ha,hc⟩:=hv.open
 have HF:=Hid.mk hf
 have hl0:=intB_len zs.length (by omega) (by omega)
 go_enter Tryz.func128,Tryz.ntmps128
 go_wp2_with (go_at_call 211;refine (refInt _ _ (by omega) (by omega)).mono ?_;rintro e w1 ⟨v1,rfl,ho1,hb1⟩)
 go_loopw [3,4] (fun o i wr=>∃k:Nat,k≤zs.length∧i = .int .i64 k∧Own w.heap.size 5 wr o ((intB zs.length ++ ((zs.take k).map intB).flatten).map (Value.int .u8))∧Below w.heap.size w wr) (fun _ i _=>zs.length - (intOf i).toNat)
 case atStart=>exact ⟨0,by omega,rfl,by simpa using ho1,hb1⟩
 case round=>
  obtain ⟨k,hk,rfl,hown,hb⟩:=hrel
  have HB:=Hid.mk hb
  clear hb
  have hb2:=HB.out.size
  by_cases hlt:k < zs.length
  ·obtain ⟨y,hy⟩:=ints_get zs k hlt
   have c1:=below_cell HB.out (hc.out k y hy)
   obtain ⟨y1,y2⟩:=HF.out y (List.mem_of_getElem? hy)
   have hl1:=intB_len y y1 y2
   have hl2:=flat_len (zs.take k) (fun z hz=>HF.out z (List.mem_of_mem_take hz))
   have hl3:(zs.take k).length≤zs.length:=by rw [List.length_take];omega
   obtain rfl:=ha (by omega)
   have T:=Hid.mk (flat_take zs k y hy)
   clear ha hy
   go_wp2_with (first|(at_builtin;refine wp_append (.tmp 14) (.tmp 19) 92 5 1 _ elemByte rfl rfl Tryz.underlying92 w.heap.size _ _ _ _ rfl (hown.kept hb3) rfl ho3.rd (by simp only [List.length_map];omega) (oneCells _ _) (by simp only [List.length_map,List.length_append,maxLen];omega) (by simp only [List.length_map,List.length_append];omega) (by have:=hb3.size;omega) ?_;intro v' w' hown' hb')|(go_at_call 211;refine (refInt _ _ y1 y2).mono ?_;rintro e w3 ⟨v3,rfl,ho3,hb3⟩))
   go_roundw
   case rel=>exact ⟨k+1,by omega,by go_num,by rw [T.out,←List.append_assoc,List.map_append];exact hown',(HB.out.trans (hb3.mono hb2)).trans hb'⟩
   case measure=>simp [intOf];omega
  ·have e:zs.take k=zs:=List.take_of_length_le (by omega)
   rw [e] at hown
   go_wp2
   go_ret
   exact ⟨_,rfl,hown,HB.out⟩
end Go.Proofs.YtoamkpgaaanafaaGreat

/- Element types. -/
namespace Go.Proofs.YtoamkpgaaanafaaGreat
set_option linter.unusedSimpArgs false
set_option linter.unusedVariables false
set_option linter.unnecessarySimpa false
open Go.RowKit
theorem elemInt:Elem1 Tryz.prog 3 (.int .i64 0) 8:=⟨by kernel_rfl,rfl⟩
end Go.Proofs.YtoamkpgaaanafaaGreat

/- The walks of wire and antiquaryref01: GetInts. -/
namespace Go.Proofs.YtoamkpgaaanafaaGreat
set_option linter.unusedSimpArgs false
set_option linter.unusedVariables false
set_option linter.unnecessarySimpa false
open Go.RowKit
def MadeIntsN (w:World) (r:List Int×Int×Int) (e:Ending) (w' : World):Prop:=
 ∃v,e = .returned (.tuple #[v, .int .i64 r.2.1, .int .i64 r.2.2])∧Own w.heap.size 3 w' v (r.1.map (Value.int .i64))∧Below w.heap.size w w'
theorem MadeIntsN.mk {w w' : World} {r:List Int×Int×Int} {l:List Int} {x y:Int} {v:Value} (h:r=(l,x,y)) (ho:Own w.heap.size 3 w' v (l.map (Value.int .i64))) (hb:Below w.heap.size w w') :
  MadeIntsN w r (.returned (.tuple #[v, .int .i64 x, .int .i64 y])) w':=by
 subst h;exact ⟨v,rfl,ho,hb⟩
theorem Byte.drop {bs:List Int} (h:Byte bs) (m:Nat):Byte (bs.drop m):=fun k c hk=>h (m+k) c (by rw [←List.getElem?_drop];exact hk)
end Go.Proofs.YtoamkpgaaanafaaGreat

/- Strings, attributes, definitions, schemas and entries in memory. -/
namespace Go.Proofs.YtoamkpgaaanafaaGreat
set_option linter.unusedSimpArgs false
set_option linter.unusedVariables false
set_option linter.unnecessarySimpa false
open Go.RowKit
theorem below_alloc (w:World) (o:Obj):Below w.heap.size w (w.alloc o):=(Below.refl _ _).alloc (Nat.le_refl _) _
theorem below_drewN (w:World) (n:Nat):Below w.heap.size w (w.drewN n):=(Still.one w n).below _
def RdS (w:World) (v:Value) (k:Nat) (rows:List (List Value)):Prop:=
 ∃a cap b off,v = .slice a rows.length cap∧rows.length≤cap∧cap≤maxLen∧(0 < rows.length→a=some ⟨b,off,none⟩) ∧
  ∀i j r u,rows[i]? = some r→r[j]? = some u→w.cell? ⟨b,off+i * k+j,none⟩=some u
theorem RdS.below {w w' : World} {v:Value} {k:Nat} {rows:List (List Value)} (h:RdS w v k rows) (hb:Below w.heap.size w w'):RdS w' v k rows:=by
 obtain ⟨a,cap,b,off,h1,h2,h3,h4,h5⟩:=h
 exact ⟨a,cap,b,off,h1,h2,h3,h4,fun i j r u hr hu=>below_cell hb (h5 i j r u hr hu)⟩
def Strs (w:World) (v:Value) (l:List ByteArray):Prop:=Rd w v (l.map Value.string)
theorem Strs.below {w w' : World} {v:Value} {l:List ByteArray} (h:Strs w v l) (hb:Below w.heap.size w w'):Strs w' v l:=Rd.below h hb
theorem Ints.below {w w' : World} {v:Value} {l:List Int} (h:Ints w v l) (hb:Below w.heap.size w w'):Ints w' v l:=Rd.below h hb
theorem Bytes.below {w w' : World} {v:Value} {l:List Int} (h:Bytes w v l) (hb:Below w.heap.size w w'):Bytes w' v l:=Rd.below h hb
theorem Strs.open {w:World} {v:Value} {l:List ByteArray} (h:Strs w v l):∃a cap b off,v = .slice a l.length cap∧l.length≤cap∧cap≤maxLen ∧
  (0 < l.length→a=some ⟨b,off,none⟩)∧Hid (∀j x,l[j]? = some x→w.cell? ⟨b,off+j,none⟩=some (.string x)):=by
 obtain ⟨a,cap,b,off,h1,h2,h3,h4,h5⟩:=h
 simp only [List.length_map] at h1 h2 h4
 exact ⟨a,cap,b,off,h1,h2,h3,h4,fun j x hx=>h5 j _ (by simp [hx])⟩
def attrC (a:PAttr):List Value := [.string a.name, .int .i64 a.kind, .int .i64 a.n, .string a.s]
def attrV (a:PAttr):Value:=.agg #[.string a.name, .int .i64 a.kind, .int .i64 a.n, .string a.s]
def Attrs (w:World) (v:Value) (l:List PAttr):Prop:=RdS w v 4 (l.map attrC)
theorem Attrs.below {w w' : World} {v:Value} {l:List PAttr} (h:Attrs w v l) (hb:Below w.heap.size w w'):Attrs w' v l:=RdS.below h hb
def AttrAt (w:World) (b off:Nat) (x:PAttr):Prop:=
 w.cell? ⟨b,off,none⟩=some (.string x.name)∧w.cell? ⟨b,off+1,none⟩=some (.int .i64 x.kind)∧w.cell? ⟨b,off+2,none⟩=some (.int .i64 x.n)∧w.cell? ⟨b,off+3,none⟩=some (.string x.s)
theorem AttrAt.below {w w' : World} {b off:Nat} {x:PAttr} (h:AttrAt w b off x) (hb:Below w.heap.size w w'):AttrAt w' b off x:=
 ⟨below_cell hb h.1,below_cell hb h.2.1,below_cell hb h.2.2.1,below_cell hb h.2.2.2⟩
theorem AttrAt.lt {w:World} {b off:Nat} {x:PAttr} (h:AttrAt w b off x):b < w.heap.size:=World.block_lt_of_cell? _ _ h.1
theorem Attrs.open {w:World} {v:Value} {l:List PAttr} (h:Attrs w v l):∃a cap b off,v = .slice a l.length cap∧l.length≤cap∧cap≤maxLen ∧
  (0 < l.length→a=some ⟨b,off,none⟩)∧Hid (∀i x,l[i]? = some x→AttrAt w b (off+i * 4) x):=by
 obtain ⟨a,cap,b,off,h1,h2,h3,h4,h5⟩:=h
 simp only [List.length_map] at h1 h2 h4
 refine ⟨a,cap,b,off,h1,h2,h3,h4,fun i x hx=>?_⟩
 have e:(l.map attrC)[i]? = some (attrC x):=by simp [hx]
 exact ⟨h5 i 0 _ _ e rfl,h5 i 1 _ _ e rfl,h5 i 2 _ _ e rfl,h5 i 3 _ _ e rfl⟩
def DefAt (w:World) (b off:Nat) (d:PDef) (wv:Value):Prop:=
 w.cell? ⟨b,off,none⟩=some (.string d.name)∧w.cell? ⟨b,off+1,none⟩=some (.int .i64 d.kind)∧w.cell? ⟨b,off+2,none⟩=some (.int .i64 d.lo)∧w.cell? ⟨b,off+3,none⟩=some (.int .i64 d.hi)∧w.cell? ⟨b,off+4,none⟩=some wv
theorem DefAt.below {w w' : World} {b off:Nat} {d:PDef} {wv:Value} (h:DefAt w b off d wv) (hb:Below w.heap.size w w'):DefAt w' b off d wv:=
 ⟨below_cell hb h.1,below_cell hb h.2.1,below_cell hb h.2.2.1,below_cell hb h.2.2.2.1,below_cell hb h.2.2.2.2⟩
theorem DefAt.lt {w:World} {b off:Nat} {d:PDef} {wv:Value} (h:DefAt w b off d wv):b < w.heap.size:=World.block_lt_of_cell? _ _ h.1
def defV (d:PDef) (wv:Value):Value:=.agg #[.string d.name, .int .i64 d.kind, .int .i64 d.lo, .int .i64 d.hi,wv]
def Defs (w:World) (v:Value) (l:List PDef):Prop:=
 ∃a cap b off,v = .slice a l.length cap∧l.length≤cap∧cap≤maxLen∧(0 < l.length→a=some ⟨b,off,none⟩) ∧
  ∀i d,l[i]? = some d→∃wv,DefAt w b (off+i * 5) d wv∧Strs w wv d.words
theorem Defs.below {w w' : World} {v:Value} {l:List PDef} (h:Defs w v l) (hb:Below w.heap.size w w'):Defs w' v l:=by
 obtain ⟨a,cap,b,off,h1,h2,h3,h4,h5⟩:=h
 refine ⟨a,cap,b,off,h1,h2,h3,h4,fun i d hd=>?_⟩
 obtain ⟨wv,h6,h7⟩:=h5 i d hd
 exact ⟨wv,h6.below hb,h7.below hb⟩
theorem Defs.open {w:World} {v:Value} {l:List PDef} (h:Defs w v l):∃a cap b off,v = .slice a l.length cap∧l.length≤cap∧cap≤maxLen ∧
  (0 < l.length→a=some ⟨b,off,none⟩)∧Hid (∀i d,l[i]? = some d→∃wv,DefAt w b (off+i * 5) d wv∧Strs w wv d.words):=h
def SchemaV (w:World) (v:Value) (s:PSchema):Prop:=∃dv,v = .agg #[.int .i64 s.dims, .int .i64 s.metric,dv]∧Defs w dv s.defs
theorem SchemaV.below {w w' : World} {v:Value} {s:PSchema} (h:SchemaV w v s) (hb:Below w.heap.size w w'):SchemaV w' v s:=by
 obtain ⟨dv,h1,h2⟩:=h
 exact ⟨dv,h1,h2.below hb⟩
def entryVal (e:PEntry) (vv av:Value):Value:=.agg #[.int .i64 e.id, .int .i64 e.ver, .int .i64 e.owner, .int .i64 e.filed, .int .i64 e.frm, .int .i64 e.to, .int .i64 e.born,vv,av]
def EntryV (w:World) (v:Value) (e:PEntry):Prop:=∃vv av,v=entryVal e vv av∧Ints w vv e.vec∧Attrs w av e.attrs
theorem EntryV.below {w w' : World} {v:Value} {e:PEntry} (h:EntryV w v e) (hb:Below w.heap.size w w'):EntryV w' v e:=by
 obtain ⟨vv,av,h1,h2,h3⟩:=h
 exact ⟨vv,av,h1,h2.below hb,h3.below hb⟩
def RetB (w:World) (b:Bool) (e:Ending) (w' : World):Prop:=e = .returned (.bool b)∧Below w.heap.size w w'
def RetI (w:World) (n:Int) (e:Ending) (w' : World):Prop:=e = .returned (.int .i64 n)∧Below w.heap.size w w'
theorem RetB.mk {w w' : World} {a b:Bool} (h:a=b) (hb:Below w.heap.size w w'):RetB w b (.returned (.bool a)) w':=⟨by rw [h],hb⟩
theorem RetI.mk {w w' : World} {a b:Int} (h:a=b) (hb:Below w.heap.size w w'):RetI w b (.returned (.int .i64 a)) w':=⟨by rw [h],hb⟩
end Go.Proofs.YtoamkpgaaanafaaGreat

/- Walks: lists of strings: antiquaryref13.Has, slices.Index, slices.Contains, rising. -/
namespace Go.Proofs.YtoamkpgaaanafaaGreat
set_option linter.unusedSimpArgs false
set_option linter.unusedVariables false
set_option linter.unnecessarySimpa false
open Go.RowKit
theorem any_drop (l:List ByteArray) (p:ByteArray→Bool) (k:Nat) (x:ByteArray) (h:l[k]? = some x):(l.drop k).any p=(p x || (l.drop (k+1)).any p):=by
 obtain ⟨hk,rfl⟩:=List.getElem?_eq_some_iff.1 h
 rw [List.drop_eq_getElem_cons (by omega),List.any_cons]
theorem any_end (l:List ByteArray) (p:ByteArray→Bool) (k:Nat) (h:l.length≤k):(l.drop k).any p=false:=by
 rw [List.drop_eq_nil_of_le h];rfl
set_option maxRecDepth 100000 in
set_option maxHeartbeats 400000 in
theorem refHasS (v:Value) (l:List ByteArray) (s:ByteArray) (w:World) (hv:Strs w v l) (hl:l.length≤1000000000) :
  Calls Tryz.prog 86 #[v, .string s] w fun e w' => e = .returned (.bool (hasB l s))∧w=w':=by
 obtain ⟨a,cap,b,off,rfl,hcap,hm,ha,hc⟩:=hv.open
 go_enter Tryz.func86,Tryz.ntmps86
 go_wp2
 go_loop [5] (fun i=>∃k:Nat,k≤l.length∧i = .int .i64 k∧Hid (hasB l s=hasB (l.drop k) s)) (fun i=>l.length - (intOf i).toNat)
 case atStart=>exact ⟨0,by omega,rfl,rfl⟩
 case round=>
  obtain ⟨k,hk,rfl,hh⟩:=hrel
  by_cases hlt:k < l.length
  ·obtain ⟨y,hy⟩:=ints_get l k (by omega)
   have c0:=hc.out k y hy
   obtain rfl:=ha (by omega)
   have H:Hid (_=_):=any_drop l (fun x=>eqB x s) k y hy
   clear ha hy
   by_cases e:eqB y s=true
   ·have e' : (y.toList == s.toList)=true:=e
    go_wp2
    go_ret
    exact ⟨ret_bool (by rw [hh.out,hasB,H.out,e];rfl),rfl⟩
   ·have e2:eqB y s=false:=by simpa using e
    have e' : (y.toList == s.toList)=false:=e2
    go_wp2
    go_round
    case rel=>exact ⟨k+1,by omega,by go_num,by rw [Hid,hh.out,hasB,H.out,e2];rfl⟩
    case measure=>simp [intOf];omega
  ·go_wp2
   go_ret
   exact ⟨ret_bool (by rw [hh.out,hasB,any_end _ _ _ (by omega)]),rfl⟩
set_option maxRecDepth 100000 in
set_option maxHeartbeats 400000 in
theorem slicesIndexS (v:Value) (l:List ByteArray) (s:ByteArray) (w:World) (hv:Strs w v l) (hl:l.length≤1000000000) :
  Calls Tryz.prog 149 #[v, .string s] w fun e w' => e = .returned (.int .i64 (idxB (l.map fun x=>eqB x s)))∧w=w':=by
 obtain ⟨a,cap,b,off,rfl,hcap,hm,ha,hc⟩:=hv.open
 go_enter Tryz.func149,Tryz.ntmps149
 go_wp2
 go_loop [8] (fun i=>∃k:Nat,k≤l.length∧i = .int .i64 k∧Hid (idxB (l.map fun x=>eqB x s)=idxGo ((l.map fun x=>eqB x s).drop k) k)) (fun i=>l.length - (intOf i).toNat)
 case atStart=>exact ⟨0,by omega,rfl,rfl⟩
 case round=>
  obtain ⟨k,hk,rfl,hh⟩:=hrel
  by_cases hlt:k < l.length
  ·obtain ⟨y,hy⟩:=ints_get l k (by omega)
   have c0:=hc.out k y hy
   obtain rfl:=ha (by omega)
   have H:Hid (_=_):=idxGo_drop (l.map fun x=>eqB x s) k (eqB y s) (by simp [hy])
   clear ha hy
   by_cases e:eqB y s=true
   ·have e' : (s.toList == y.toList)=true:=by rw [eqB_comm] at e;exact e
    go_wp2
    go_ret
    exact ⟨ret_int (by rw [hh.out,H.out,e];rfl),rfl⟩
   ·have e2:eqB y s=false:=by simpa using e
    have e' : (s.toList == y.toList)=false:=by rw [eqB_comm] at e2;exact e2
    go_wp2
    go_round
    case rel=>exact ⟨k+1,by omega,by go_num,by rw [Hid,hh.out,H.out,e2];rfl⟩
    case measure=>simp [intOf];omega
  ·go_wp2
   go_ret
   exact ⟨ret_int (by rw [hh.out,idxGo_end _ _ (by simp;omega)]),rfl⟩
set_option maxRecDepth 100000 in
set_option maxHeartbeats 400000 in
theorem slicesContainsS (v:Value) (l:List ByteArray) (s:ByteArray) (w:World) (hv:Strs w v l) (hl:l.length≤1000000000) :
  Calls Tryz.prog 73 #[v, .string s] w fun e w' => e = .returned (.bool (hasB l s))∧w=w':=by
 have H:Hid (decide (0≤idxB (l.map fun x=>eqB x s))=hasB l s):=by rw [Hid,idxB_any,List.any_map];rfl
 go_enter Tryz.func73,Tryz.ntmps73
 go_wp2_with (go_at_call 149;refine (slicesIndexS _ l s _ hv hl).mono ?_;rintro e w' ⟨rfl,rfl⟩)
 go_ret
 exact ⟨ret_bool H.out,rfl⟩
set_option maxRecDepth 100000 in
set_option maxHeartbeats 400000 in
theorem attrRising (v:Value) (l:List ByteArray) (w:World) (hv:Strs w v l) (hl:l.length≤1000000000) :
  Calls Tryz.prog 224 #[v] w fun e w' => e = .returned (.bool (riseB l))∧Still w w':=by
 obtain ⟨a,cap,b,off,rfl,hcap,hm,ha,hc⟩:=hv.open
 by_cases h0:l.length=0
 ·have hb:Hid (riseB l=true):=by rw [List.length_eq_zero_iff.1 h0];rfl
  have hlt:l.length < 1:=by omega
  clear h0
  go_enter Tryz.func224,Tryz.ntmps224
  go_wp2
  go_loop [3] (fun i=>i = .int .i64 1) (fun i=>0)
  case atStart=>rfl
  case round=>
   obtain rfl:=hrel
   go_wp2
   go_ret
   exact ⟨ret_bool hb.out.symm,Still.refl _⟩
 ·obtain rfl:=ha (by omega)
  have hpos:1≤l.length:=by omega
  clear h0 ha
  obtain ⟨x0,hx0⟩:=ints_get l 0 (by omega)
  have S0:Hid (riseB l=riseGo x0 (l.drop 1)):=riseB_start l x0 hx0
  have X0:Hid (l[0]? = some x0):=hx0
  clear hx0
  go_enter Tryz.func224,Tryz.ntmps224
  go_wp2
  go_loopw [3] (fun i wr=>∃k n:Nat,∃p,k+1≤l.length∧i = .int .i64 ((k+1:Nat):Int)∧wr=w.drewN n∧Hid (l[k]? = some p)∧Hid (riseB l=riseGo p (l.drop (k+1)))) (fun i _=>l.length - (intOf i).toNat)
  case atStart=>exact ⟨0,0,x0,by omega,rfl,rfl,X0,S0⟩
  case round=>
   obtain ⟨k,n,p,hk,rfl,rfl,hp,hh⟩:=hrel
   by_cases hlt:k+1 < l.length
   ·obtain ⟨y,hy⟩:=ints_get l (k+1) (by omega)
    have c0:=hc.out (k+1) y hy
    have c1:=hc.out k p hp.out
    have H:Hid (_=_):=riseGo_drop l k p y hy
    have Y:Hid (l[k+1]? = some y):=hy
    clear hy
    by_cases e:leqB y p=true
    ·have e' : (Op.bytesLess y.toList p.toList || y.toList == p.toList)=true:=e
     go_wp2
     go_quiet (fail)
     go_wp2
     go_ret
     exact ⟨ret_bool (by rw [hh.out,H.out,e];rfl),by first|exact Still.two _ _ _|exact Still.one _ _⟩
    ·have e2:leqB y p=false:=by simpa using e
     have e' : (Op.bytesLess y.toList p.toList || y.toList == p.toList)=false:=e2
     go_wp2
     go_quiet (fail)
     go_wp2
     go_roundw
     case rel=>exact ⟨k+1,_,y,by omega,by go_num,rfl,Y,by rw [Hid,hh.out,H.out,e2];rfl⟩
     case measure=>simp [intOf];omega
   ·go_wp2
    go_ret
    exact ⟨ret_bool (by rw [hh.out,riseGo_end _ _ _ (by omega)]),Still.one _ _⟩
end Go.Proofs.YtoamkpgaaanafaaGreat

/- Walks: Name. -/
namespace Go.Proofs.YtoamkpgaaanafaaGreat
set_option linter.unusedSimpArgs false
set_option linter.unusedVariables false
set_option linter.unnecessarySimpa false
open Go.RowKit
theorem byteAt (s:ByteArray) (k:Nat) (h:k < s.size):s.data.toList[k]? = some (s[k]'h):=by
 rw [List.getElem?_eq_getElem (by simpa using h)];rfl
def okC (k:Nat) (c:Int):Bool:=lowI c || (!(k == 0) && resI c)
theorem nameGo_step (s:ByteArray) (k:Nat) (h:k < s.size):nameGo (k == 0) (s.data.toList.drop k)=(okC k ((s[k]'h).toNat:Int) && nameGo (k+1 == 0) (s.data.toList.drop (k+1))):=
 nameGo_drop _ _ _ (byteAt s k h)
theorem lit_reserved (w:World):Strs (w.alloc (.cells #[Value.string ⟨#[97,108,108]⟩,Value.string ⟨#[97,110,100]⟩,Value.string ⟨#[104,97,115]⟩,Value.string ⟨#[105,110]⟩,Value.string ⟨#[110,111,116]⟩,Value.string ⟨#[111,114]⟩] 9)) (.slice (some ⟨w.heap.size,0,none⟩) 6 6) reserved:=
 (Own.lit w (reserved.map Value.string) 9 w.heap.size (Nat.le_refl _) (by simp [maxLen,reserved])).rd
set_option maxRecDepth 100000 in
set_option maxHeartbeats 1000000 in
theorem refName (s : ByteArray) (w : World) (hs : s.size ≤ 1000000000) :
    Calls Tryz.prog 144 #[.string s] w (RetB w (nameB s)) := by
  go_enter Tryz.func144, Tryz.ntmps144
  go_wp2
  go_loop [3] (fun i => ∃ k : Nat, k ≤ s.size ∧ i = .int .i64 k ∧ Hid (nameGo true s.data.toList = nameGo (k == 0) (s.data.toList.drop k))) (fun i => s.size - (intOf i).toNat)
  case atStart => exact ⟨0, by omega, rfl, rfl⟩
  case round =>
    obtain ⟨k, hk, rfl, hh⟩ := hrel
    by_cases hlt : k < s.size
    · have H : Hid (_ = _) := nameGo_step s k hlt
      have bad : Hid (okC k ((s[k]'hlt).toNat : Int) = false → nameB s = false) := by
        intro h; rw [nameB, hh.out, H.out, h]; rfl
      have good : Hid (okC k ((s[k]'hlt).toNat : Int) = true → nameGo true s.data.toList = nameGo (k + 1 == 0) (s.data.toList.drop (k+1))) := by
        intro h; rw [hh.out, H.out, h]; rfl
      clear H hh
      have kk : ((k : Int) == 0) = (k == 0) := by rw [Bool.eq_iff_iff]; simp
      have KK := Lib.hid kk
      clear kk
      cases ok : okC k ((s[k]'hlt).toNat : Int) <;> cases K0 : (k == 0) <;> cases T1 : decide ((97 : Int) ≤ ((s[k]'hlt).toNat : Int)) <;> cases T2 : decide (((s[k]'hlt).toNat : Int) ≤ 122) <;> cases T3 : decide ((48 : Int) ≤ ((s[k]'hlt).toNat : Int)) <;>
        cases T4 : decide (((s[k]'hlt).toNat : Int) ≤ 57) <;> cases T5 : (((s[k]'hlt).toNat : Int) == 95)
      all_goals first
        | (exfalso; simp [okC, lowI, resI, K0, T1, T2, T3, T4, T5] at ok; done)
        | (exfalso; simp only [decide_eq_true_eq, decide_eq_false_iff_not, beq_iff_eq, beq_eq_false_iff_ne] at T1 T2 T3 T4 T5; omega)
        | skip
      all_goals
        have KI := KK.out
        rw [K0] at KI
        have OK := Lib.hid ok
        clear ok K0
        go_wp2
        first
          | (go_ret; refine RetB.mk (bad.out OK.out).symm (Below.refl _ _))
          | (go_round
             case rel => exact ⟨k + 1, by omega, by go_num, good.out OK.out⟩
             case measure => simp [intOf]; omega)
    · have HE : Hid (nameGo true s.data.toList = true) := by rw [Hid, hh.out, nameGo_end _ _ _ (by simp; omega)]
      clear hh
      by_cases h1 : 1 ≤ s.size
      · by_cases h2 : s.size ≤ 40
        · have h1' : decide ((1 : Int) ≤ (s.size : Int)) = true := by simp; omega
          have h2' : decide ((s.size : Int) ≤ 40) = true := by simp; omega
          have HN : Hid (nameB s = !hasB reserved s) := by rw [Hid, nameB, HE.out]; simp [h1, h2]
          go_wp2_with (go_at_call 86; refine (refHasS _ reserved s _ (lit_reserved w) (by decide)).mono ?_; rintro e w' ⟨rfl, rfl⟩)
          go_ret
          exact RetB.mk HN.out.symm (below_alloc _ _)
        · have h2' : decide ((s.size : Int) ≤ 40) = false := by simp; omega
          have HN : Hid (nameB s = false) := by rw [Hid, nameB, HE.out]; simp [h2]
          go_wp2
          go_ret
          exact RetB.mk HN.out.symm (Below.refl _ _)
      · have h1' : decide ((1 : Int) ≤ (s.size : Int)) = false := by simp; omega
        have HN : Hid (nameB s = false) := by rw [Hid, nameB, HE.out]; simp [h1]
        go_wp2
        go_ret
        exact RetB.mk HN.out.symm (Below.refl _ _)
theorem below_iter (w:World) (s:ByteArray) (k:Nat):Below w.heap.size w (w.iter s k):=below_alloc _ _
set_option maxRecDepth 100000 in
set_option maxHeartbeats 2000000 in
theorem attrName (s : ByteArray) (w : World) (hs : s.size ≤ 1000000000) :
    Calls Tryz.prog 214 #[.string s] w (RetB w (nameB s)) := by
  go_enter Tryz.func214, Tryz.ntmps214
  go_wp2
  go_loopw [3, 4] (fun _ _ wr => ∃ k : Nat, k ≤ s.size ∧ wr = w.iter s k ∧ Hid (nameGo true s.data.toList = nameGo (k == 0) (s.data.toList.drop k))) (fun _ _ wr => s.size - wr.iterPos w.heap.size)
  case atStart => exact ⟨0, by omega, rfl, rfl⟩
  case round =>
    obtain ⟨k, hk, rfl, hh⟩ := hrel
    by_cases hlt : k < s.size
    · have H : Hid (_ = _) := nameGo_step s k hlt
      have bad : Hid (okC k ((s[k]'hlt).toNat : Int) = false → nameB s = false) := by
        intro h; rw [nameB, hh.out, H.out, h]; rfl
      have good : Hid (okC k ((s[k]'hlt).toNat : Int) = true → nameGo true s.data.toList = nameGo (k + 1 == 0) (s.data.toList.drop (k+1))) := by
        intro h; rw [hh.out, H.out, h]; rfl
      clear H hh
      have kk : ((k : Int) == 0) = (k == 0) := by rw [Bool.eq_iff_iff]; simp
      have KK := Lib.hid kk
      clear kk
      by_cases h128 : (s[k]'hlt).toNat < 128
      · have hnx := fun ty => run_next_ascii (P := Tryz.prog) w s k ty hlt h128
        cases ok : okC k ((s[k]'hlt).toNat : Int) <;> cases K0 : (k == 0) <;> cases T1 : decide (((s[k]'hlt).toNat : Int) < 97) <;> cases T2 : decide (122 < ((s[k]'hlt).toNat : Int)) <;> cases T3 : decide (((s[k]'hlt).toNat : Int) < 48) <;>
          cases T4 : decide (57 < ((s[k]'hlt).toNat : Int)) <;> cases T5 : (((s[k]'hlt).toNat : Int) != 95)
        all_goals first
          | (exfalso; simp only [decide_eq_true_eq, decide_eq_false_iff_not, bne_iff_ne, bne_eq_false_iff_eq] at T1 T2 T3 T4 T5; omega)
          | (exfalso
             simp only [decide_eq_true_eq, decide_eq_false_iff_not, bne_iff_ne, bne_eq_false_iff_eq] at T1 T2 T3 T4 T5
             simp [okC, lowI, resI, K0] at ok
             omega)
          | skip
        all_goals
          have KI := KK.out
          rw [K0] at KI
          have OK := Lib.hid ok
          clear ok K0
          go_wp2
          first
            | (go_ret; refine RetB.mk (bad.out OK.out).symm (below_iter _ _ _))
            | (go_roundw
               case rel => exact ⟨k + 1, by omega, rfl, good.out OK.out⟩
               case measure => simp; omega)
      · have hnx := fun ty => run_next_any (P := Tryz.prog) w s k ty hlt
        have hd := (decode_high s k hlt (by omega)).1
        have OK : Hid (okC k ((s[k]'hlt).toNat : Int) = false) := by
          simp [Hid, okC, lowI, resI]
          have := (s[k]'hlt).toNat_lt
          omega
        generalize Utf8.decode s k = dd at hnx hd
        obtain ⟨r, d⟩ := dd
        simp only at hnx hd
        have T1 : decide ((r : Int) < 97) = false := by simp; omega
        have T2 : decide (122 < (r : Int)) = true := by simp; omega
        have T3 : decide ((r : Int) < 48) = false := by simp; omega
        have T4 : decide (57 < (r : Int)) = true := by simp; omega
        have T5 : ((r : Int) != 95) = true := by simp; omega
        cases K0 : (k == 0)
        all_goals
          have KI := KK.out
          rw [K0] at KI
          clear K0
          go_wp2
          go_ret
          exact RetB.mk (bad.out OK.out).symm (below_iter _ _ _)
    · have HE : Hid (nameGo true s.data.toList = true) := by rw [Hid, hh.out, nameGo_end _ _ _ (by simp; omega)]
      have hnx := fun ty => run_next_end (P := Tryz.prog) w s k ty hlt
      clear hh
      by_cases h1 : 1 ≤ s.size
      · by_cases h2 : s.size ≤ 40
        · have h1' : decide ((1 : Int) ≤ (s.size : Int)) = true := by simp; omega
          have h2' : decide ((s.size : Int) ≤ 40) = true := by simp; omega
          have HN : Hid (nameB s = !hasB reserved s) := by rw [Hid, nameB, HE.out]; simp [h1, h2]
          go_wp2_with (go_at_call 73; refine (slicesContainsS _ reserved s _ (lit_reserved (w.iter s k)) (by decide)).mono ?_; rintro e w' ⟨rfl, rfl⟩)
          go_ret
          exact RetB.mk HN.out.symm ((below_iter w s k).trans ((below_alloc _ _).mono (below_iter w s k).size))
        · have h2' : decide ((s.size : Int) ≤ 40) = false := by simp; omega
          have HN : Hid (nameB s = false) := by rw [Hid, nameB, HE.out]; simp [h2]
          go_wp2
          go_ret
          exact RetB.mk HN.out.symm (below_iter _ _ _)
      · have h1' : decide ((1 : Int) ≤ (s.size : Int)) = false := by simp; omega
        have HN : Hid (nameB s = false) := by rw [Hid, nameB, HE.out]; simp [h1]
        go_wp2
        go_ret
        exact RetB.mk HN.out.symm (below_iter _ _ _)
end Go.Proofs.YtoamkpgaaanafaaGreat

/- Walks: first, IndexFunc, ContainsFunc. -/
namespace Go.Proofs.YtoamkpgaaanafaaGreat
set_option linter.unusedSimpArgs false
set_option linter.unusedVariables false
set_option linter.unnecessarySimpa false
open Go.RowKit
structure Rule where
 f:Nat
 caps:Array Value
 b:Bool
 e:Int
def ruleC (r:Rule):List Value := [.func (.func r.f) #[] r.caps, .int .i64 r.e]
def Rules (w:World) (v:Value) (rs:List Rule):Prop:=RdS w v 2 (rs.map ruleC)
theorem Rules.open {w:World} {v:Value} {l:List Rule} (h:Rules w v l):∃a cap b off,v = .slice a l.length cap∧l.length≤cap∧cap≤maxLen ∧
  (0 < l.length→a=some ⟨b,off,none⟩)∧Hid (∀i x,l[i]? = some x→w.cell? ⟨b,off+i * 2,none⟩=some (.func (.func x.f) #[] x.caps)∧w.cell? ⟨b,off+i * 2+1,none⟩=some (.int .i64 x.e)):=by
 obtain ⟨a,cap,b,off,h1,h2,h3,h4,h5⟩:=h
 simp only [List.length_map] at h1 h2 h4
 refine ⟨a,cap,b,off,h1,h2,h3,h4,fun i x hx=>?_⟩
 have e:(l.map ruleC)[i]? = some (ruleC x):=by simp [hx]
 exact ⟨h5 i 0 _ _ e rfl,h5 i 1 _ _ e rfl⟩
def CallOk (f:Nat):Prop:=∀(args:Array Value) (w:World),(callFunc f args).run Tryz.prog w = .ok (.enter f args) w
set_option maxRecDepth 100000 in
set_option maxHeartbeats 400000 in
theorem attrFirst (v:Value) (rs:List Rule) (w:World) (hv:Rules w v rs) (hl:rs.length≤1000) (hcf:Hid (∀r∈rs,CallOk r.f))
  (hr:Hid (∀r∈rs,∀w',Below w.heap.size w w'→Calls Tryz.prog r.f r.caps w' (RetB w' r.b))) :
  Calls Tryz.prog 87 #[v] w (RetI w (firstE (rs.map fun r=>(r.b,r.e)))):=by
 obtain ⟨a,cap,b,off,rfl,hcap,hm,ha,hc⟩:=hv.open
 clear hv
 go_enter Tryz.func87,Tryz.ntmps87
 go_wp2
 go_loopw [7] (fun i wr=>∃k:Nat,k≤rs.length∧i = .int .i64 k∧Below w.heap.size w wr∧Hid (firstE (rs.map fun r=>(r.b,r.e))=firstE ((rs.map fun r=>(r.b,r.e)).drop k))) (fun i _=>rs.length - (intOf i).toNat)
 case atStart=>exact ⟨0,by omega,rfl,Below.refl _ _,rfl⟩
 case round=>
  obtain ⟨k,hk,rfl,hb,hh⟩:=hrel
  by_cases hlt:k < rs.length
  ·obtain ⟨y,hy⟩:=ints_get rs k (by omega)
   obtain ⟨c0',c1'⟩:=hc.out k y hy
   have c0:=below_cell hb c0'
   have c1:=below_cell hb c1'
   clear c0' c1'
   obtain rfl:=ha (by omega)
   have hm:=List.mem_of_getElem? hy
   have H:Hid (_=_):=firstE_drop (rs.map fun r=>(r.b,r.e)) k y.b y.e (by simp [hy])
   have hcf1:=hcf.out y hm
   have hr1:Hid (∀w',Below w.heap.size w w'→Calls Tryz.prog y.f y.caps w' (RetB w' y.b)):=hr.out y hm
   have hbl:=World.block_lt_of_cell? _ _ c0
   clear hr hcf
   obtain ⟨yf,yc,yb,ye⟩:=y
   simp only at hcf1 c0 c1 H hr1
   unfold CallOk at hcf1
   clear ha hy hm hc
   cases yb
   ·go_wp2_with fail
    refine (hr1.out _ (hb.trans ((below_alloc _ _).mono hb.size))).mono ?_
    rintro e w1 ⟨rfl,hb1⟩
    go_wp2
    go_roundw
    case rel=>exact ⟨k+1,by omega,by go_num,(hb.trans ((below_alloc _ _).mono hb.size)).trans (hb1.mono (by have:=hb.size;simp;omega)),by rw [Hid,hh.out,H.out];rfl⟩
    case measure=>simp [intOf];omega
   ·go_wp2_with fail
    refine (hr1.out _ (hb.trans ((below_alloc _ _).mono hb.size))).mono ?_
    rintro e w1 ⟨rfl,hb1⟩
    have d1:w1.cell? ⟨wr.heap.size,1,none⟩=some (.int .i64 ye):=below_cell hb1 (by simp)
    go_wp2
    go_ret
    exact RetI.mk (by rw [hh.out,H.out];rfl) ((hb.trans ((below_alloc _ _).mono hb.size)).trans (hb1.mono (by have:=hb.size;simp;omega)))
  ·go_wp2
   go_ret
   exact RetI.mk (by rw [hh.out,firstE_end _ _ (by simp;omega)]) hb
set_option maxRecDepth 100000 in
set_option maxHeartbeats 400000 in
theorem indexAttr (v:Value) (l:List PAttr) (F g:Nat) (p:PAttr→Bool) (w:World) (hv:Attrs w v l) (hl:l.length≤1000000000) (hcf:CallOk F)
  (hr:Hid (∀x∈l,∀w',Below w.heap.size w w'→Calls Tryz.prog F #[attrV x, .pointer (some ⟨g,0,none⟩)] w' (RetB w' (p x)))) :
  Calls Tryz.prog 97 #[v, .func (.func F) #[] #[.pointer (some ⟨g,0,none⟩)]] w (RetI w (idxB (l.map p))):=by
 obtain ⟨a,cap,b,off,rfl,hcap,hm,ha,hc⟩:=hv.open
 unfold CallOk at hcf
 clear hv
 go_enter Tryz.func97,Tryz.ntmps97
 go_wp2
 go_loopw [8] (fun i wr=>∃k:Nat,k≤l.length∧i = .int .i64 k∧Below w.heap.size w wr∧Hid (idxB (l.map p)=idxGo ((l.map p).drop k) k)) (fun i _=>l.length - (intOf i).toNat)
 case atStart=>exact ⟨0,by omega,rfl,Below.refl _ _,rfl⟩
 case round=>
  obtain ⟨k,hk,rfl,hb,hh⟩:=hrel
  by_cases hlt:k < l.length
  ·obtain ⟨y,hy⟩:=ints_get l k (by omega)
   obtain ⟨c0,c1,c2,c3⟩:=(hc.out k y hy).below hb
   obtain rfl:=ha (by omega)
   have hm:=List.mem_of_getElem? hy
   have H:Hid (_=_):=idxGo_drop (l.map p) k (p y) (by simp [hy])
   have hr1:Hid (∀w',Below w.heap.size w w'→Calls Tryz.prog F #[attrV y, .pointer (some ⟨g,0,none⟩)] w' (RetB w' (p y))):=hr.out y hm
   unfold attrV at hr1
   clear hr ha hy hm hc
   cases e:p y
   ·have E:=Lib.hid e
    clear e
    go_wp2_with fail
    refine (hr1.out _ hb).mono ?_
    rintro e w1 ⟨rfl,hb1⟩
    rw [E.out]
    go_wp2
    go_roundw
    case rel=>exact ⟨k+1,by omega,by go_num,hb.trans (hb1.mono hb.size),by rw [Hid,hh.out,H.out,E.out];rfl⟩
    case measure=>simp [intOf];omega
   ·have E:=Lib.hid e
    clear e
    go_wp2_with fail
    refine (hr1.out _ hb).mono ?_
    rintro e w1 ⟨rfl,hb1⟩
    rw [E.out]
    go_wp2
    go_ret
    exact RetI.mk (by rw [hh.out,H.out,E.out];rfl) (hb.trans (hb1.mono hb.size))
  ·go_wp2
   go_ret
   exact RetI.mk (by rw [hh.out,idxGo_end _ _ (by simp;omega)]) hb
set_option maxRecDepth 100000 in
set_option maxHeartbeats 400000 in
theorem indexDef (v:Value) (l:List PDef) (F g:Nat) (p:PDef→Bool) (w:World) (hv:Defs w v l) (hl:l.length≤1000000000) (hcf:CallOk F)
  (hr:Hid (∀x∈l,∀wv,∀w',Below w.heap.size w w'→Calls Tryz.prog F #[defV x wv, .pointer (some ⟨g,0,none⟩)] w' (RetB w' (p x)))) :
  Calls Tryz.prog 175 #[v, .func (.func F) #[] #[.pointer (some ⟨g,0,none⟩)]] w (RetI w (idxB (l.map p))):=by
 obtain ⟨a,cap,b,off,rfl,hcap,hm,ha,hc⟩:=hv.open
 unfold CallOk at hcf
 clear hv
 go_enter Tryz.func175,Tryz.ntmps175
 go_wp2
 go_loopw [8] (fun i wr=>∃k:Nat,k≤l.length∧i = .int .i64 k∧Below w.heap.size w wr∧Hid (idxB (l.map p)=idxGo ((l.map p).drop k) k)) (fun i _=>l.length - (intOf i).toNat)
 case atStart=>exact ⟨0,by omega,rfl,Below.refl _ _,rfl⟩
 case round=>
  obtain ⟨k,hk,rfl,hb,hh⟩:=hrel
  by_cases hlt:k < l.length
  ·obtain ⟨y,hy⟩:=ints_get l k (by omega)
   obtain ⟨wv,hd,hs⟩:=hc.out k y hy
   obtain ⟨c0,c1,c2,c3,c4⟩:=hd.below hb
   clear hd hs
   obtain rfl:=ha (by omega)
   have hm:=List.mem_of_getElem? hy
   have H:Hid (_=_):=idxGo_drop (l.map p) k (p y) (by simp [hy])
   have hr1:Hid (∀w',Below w.heap.size w w'→Calls Tryz.prog F #[defV y wv, .pointer (some ⟨g,0,none⟩)] w' (RetB w' (p y))):=hr.out y hm wv
   unfold defV at hr1
   clear hr ha hy hm hc
   cases e:p y
   ·have E:=Lib.hid e
    clear e
    go_wp2_with fail
    refine (hr1.out _ hb).mono ?_
    rintro e w1 ⟨rfl,hb1⟩
    rw [E.out]
    go_wp2
    go_roundw
    case rel=>exact ⟨k+1,by omega,by go_num,hb.trans (hb1.mono hb.size),by rw [Hid,hh.out,H.out,E.out];rfl⟩
    case measure=>simp [intOf];omega
   ·have E:=Lib.hid e
    clear e
    go_wp2_with fail
    refine (hr1.out _ hb).mono ?_
    rintro e w1 ⟨rfl,hb1⟩
    rw [E.out]
    go_wp2
    go_ret
    exact RetI.mk (by rw [hh.out,H.out,E.out];rfl) (hb.trans (hb1.mono hb.size))
  ·go_wp2
   go_ret
   exact RetI.mk (by rw [hh.out,idxGo_end _ _ (by simp;omega)]) hb
set_option maxRecDepth 100000 in
set_option maxHeartbeats 400000 in
theorem indexStr (v:Value) (l:List ByteArray) (F:Nat) (p:ByteArray→Bool) (w:World) (hv:Strs w v l) (hl:l.length≤1000000000) (hcf:CallOk F)
  (hr:Hid (∀x∈l,∀w',Below w.heap.size w w'→Calls Tryz.prog F #[.string x] w' (RetB w' (p x)))) :
  Calls Tryz.prog 185 #[v, .func (.func F) #[] #[]] w (RetI w (idxB (l.map p))):=by
 obtain ⟨a,cap,b,off,rfl,hcap,hm,ha,hc⟩:=hv.open
 unfold CallOk at hcf
 clear hv
 go_enter Tryz.func185,Tryz.ntmps185
 go_wp2
 go_loopw [8] (fun i wr=>∃k:Nat,k≤l.length∧i = .int .i64 k∧Below w.heap.size w wr∧Hid (idxB (l.map p)=idxGo ((l.map p).drop k) k)) (fun i _=>l.length - (intOf i).toNat)
 case atStart=>exact ⟨0,by omega,rfl,Below.refl _ _,rfl⟩
 case round=>
  obtain ⟨k,hk,rfl,hb,hh⟩:=hrel
  by_cases hlt:k < l.length
  ·obtain ⟨y,hy⟩:=ints_get l k (by omega)
   have c0:=below_cell hb (hc.out k y hy)
   obtain rfl:=ha (by omega)
   have hm:=List.mem_of_getElem? hy
   have H:Hid (_=_):=idxGo_drop (l.map p) k (p y) (by simp [hy])
   have hr1:Hid (∀w',Below w.heap.size w w'→Calls Tryz.prog F #[.string y] w' (RetB w' (p y))):=hr.out y hm
   clear hr ha hy hm hc
   cases e:p y
   ·have E:=Lib.hid e
    clear e
    go_wp2_with fail
    refine (hr1.out _ hb).mono ?_
    rintro e w1 ⟨rfl,hb1⟩
    rw [E.out]
    go_wp2
    go_roundw
    case rel=>exact ⟨k+1,by omega,by go_num,hb.trans (hb1.mono hb.size),by rw [Hid,hh.out,H.out,E.out];rfl⟩
    case measure=>simp [intOf];omega
   ·have E:=Lib.hid e
    clear e
    go_wp2_with fail
    refine (hr1.out _ hb).mono ?_
    rintro e w1 ⟨rfl,hb1⟩
    rw [E.out]
    go_wp2
    go_ret
    exact RetI.mk (by rw [hh.out,H.out,E.out];rfl) (hb.trans (hb1.mono hb.size))
  ·go_wp2
   go_ret
   exact RetI.mk (by rw [hh.out,idxGo_end _ _ (by simp;omega)]) hb
set_option maxRecDepth 100000 in
set_option maxHeartbeats 400000 in
theorem containsStr (v:Value) (l:List ByteArray) (F:Nat) (p:ByteArray→Bool) (w:World) (hv:Strs w v l) (hl:l.length≤1000000000) (hcf:CallOk F)
  (hr:Hid (∀x∈l,∀w',Below w.heap.size w w'→Calls Tryz.prog F #[.string x] w' (RetB w' (p x)))) :
  Calls Tryz.prog 104 #[v, .func (.func F) #[] #[]] w (RetB w (l.any p)):=by
 have H:Hid (decide (0≤idxB (l.map p))=l.any p):=by rw [Hid,idxB_any,List.any_map];rfl
 have HCF:=Lib.hid hcf
 clear hcf
 go_enter Tryz.func104,Tryz.ntmps104
 go_wp2_with (go_at_call 185;refine (indexStr _ l F p _ hv hl HCF.out hr).mono ?_;rintro e w' ⟨rfl,hb⟩)
 go_ret
 exact RetB.mk H.out hb
end Go.Proofs.YtoamkpgaaanafaaGreat

/- Walks: the rules of a definition, def. -/
namespace Go.Proofs.YtoamkpgaaanafaaGreat
set_option linter.unusedSimpArgs false
set_option linter.unusedVariables false
set_option linter.unnecessarySimpa false
open Go.RowKit
def SmallD (d:PDef):Prop:=d.name.size≤1000∧d.words.length≤1000∧∀s∈d.words,s.size≤1000
theorem def1 (g:Nat) (d:PDef) (wv:Value) (w:World) (hd:DefAt w g 0 d wv) (hs:d.name.size≤1000):Calls Tryz.prog 213 #[.pointer (some ⟨g,0,none⟩)] w (RetB w (!nameB d.name)):=by
 obtain ⟨c0,c1,c2,c3,c4⟩:=hd
 go_enter Tryz.func213,Tryz.ntmps213
 go_wp2_with (go_at_call 214;refine (attrName _ _ (by omega)).mono ?_;rintro e w' ⟨rfl,hb⟩)
 go_ret
 exact RetB.mk rfl hb
theorem def2 (g h:Nat) (d:PDef) (wv:Value) (bf:ByteArray) (w:World) (hd:DefAt w g 0 d wv) (c5:w.cell? ⟨h,0,none⟩=some (.string bf)) :
  Calls Tryz.prog 215 #[.pointer (some ⟨g,0,none⟩), .pointer (some ⟨h,0,none⟩)] w (RetB w (leqB d.name bf)):=by
 obtain ⟨c0,c1,c2,c3,c4⟩:=hd
 go_enter Tryz.func215,Tryz.ntmps215
 go_wp2
 go_ret
 exact RetB.mk rfl (Below.refl _ _)
def kindBad (d:PDef):Bool:=d.kind != 1 && d.kind != 2
theorem def3 (g:Nat) (d:PDef) (wv:Value) (w:World) (hd:DefAt w g 0 d wv):Calls Tryz.prog 216 #[.pointer (some ⟨g,0,none⟩)] w (RetB w (kindBad d)):=by
 obtain ⟨c0,c1,c2,c3,c4⟩:=hd
 cases e:d.kind != 1
 all_goals
  go_enter Tryz.func216,Tryz.ntmps216
  go_wp2
  go_ret
  exact RetB.mk (by simp [kindBad,e]) (Below.refl _ _)
def rangeBad (d:PDef):Bool:=decide (d.lo < -1099511627776) || (decide (1099511627776 < d.hi) || decide (d.hi < d.lo))
theorem def4 (g:Nat) (d:PDef) (wv:Value) (w:World) (hd:DefAt w g 0 d wv):Calls Tryz.prog 217 #[.pointer (some ⟨g,0,none⟩)] w (RetB w (rangeBad d)):=by
 obtain ⟨c0,c1,c2,c3,c4⟩:=hd
 cases e:decide (d.lo < -1099511627776)<;>cases e2:decide (1099511627776 < d.hi)
 all_goals
  go_enter Tryz.func217,Tryz.ntmps217
  go_wp2
  go_ret
  exact RetB.mk (by simp [rangeBad,e,e2]) (Below.refl _ _)
theorem def5 (g:Nat) (d:PDef) (wv:Value) (w:World) (hd:DefAt w g 0 d wv) (hs:Strs w wv d.words) (hl:d.words.length≤1000):Calls Tryz.prog 218 #[.pointer (some ⟨g,0,none⟩)] w (RetB w (decide (0 < d.words.length))):=by
 obtain ⟨c0,c1,c2,c3,c4⟩:=hd
 obtain ⟨a,cap,b,off,rfl,-⟩:=hs.open
 go_enter Tryz.func218,Tryz.ntmps218
 go_wp2
 go_ret
 exact RetB.mk (by first|rfl|simp) (Below.refl _ _)
def formBad (d:PDef):Bool:=d.lo != 0 || d.hi != 0
theorem def6 (g:Nat) (d:PDef) (wv:Value) (w:World) (hd:DefAt w g 0 d wv):Calls Tryz.prog 219 #[.pointer (some ⟨g,0,none⟩)] w (RetB w (formBad d)):=by
 obtain ⟨c0,c1,c2,c3,c4⟩:=hd
 cases e:d.lo != 0
 all_goals
  go_enter Tryz.func219,Tryz.ntmps219
  go_wp2
  go_ret
  exact RetB.mk (by simp [formBad,e]) (Below.refl _ _)
def manyBad (d:PDef):Bool:=decide (d.words.length < 1) || decide (50 < d.words.length)
theorem def7 (g:Nat) (d:PDef) (wv:Value) (w:World) (hd:DefAt w g 0 d wv) (hs:Strs w wv d.words) (hl:d.words.length≤1000):Calls Tryz.prog 220 #[.pointer (some ⟨g,0,none⟩)] w (RetB w (manyBad d)):=by
 obtain ⟨c0,c1,c2,c3,c4⟩:=hd
 obtain ⟨a,cap,b,off,rfl,-⟩:=hs.open
 cases e:decide (d.words.length < 1)<;>cases e2:decide (50 < d.words.length)
 all_goals
  have e' : decide ((d.words.length:Int) < 1)=decide (d.words.length < 1):=by rw [Bool.eq_iff_iff];simp only [decide_eq_true_eq];omega
  have e2' : decide ((50:Int) < (d.words.length:Int))=decide (50 < d.words.length):=by rw [Bool.eq_iff_iff];simp only [decide_eq_true_eq];omega
  rw [e] at e'
  rw [e2] at e2'
  have E:=Lib.hid e
  have E2:=Lib.hid e2
  clear e e2
  go_enter Tryz.func220,Tryz.ntmps220
  go_wp2
  go_ret
  exact RetB.mk (by simp only [manyBad,E.out,E2.out];first|rfl|simp_all) (Below.refl _ _)
theorem callD81:CallOk 222:=fun _ _=>by kernel_rfl
theorem def81 (s:ByteArray) (w:World) (hs:s.size≤1000):Calls Tryz.prog 222 #[.string s] w (RetB w (!nameB s)):=by
 go_enter Tryz.func222,Tryz.ntmps222
 go_wp2_with (go_at_call 214;refine (attrName _ _ (by omega)).mono ?_;rintro e w' ⟨rfl,hb⟩)
 go_ret
 exact RetB.mk rfl hb
theorem def8 (g:Nat) (d:PDef) (wv:Value) (w:World) (hd:DefAt w g 0 d wv) (hs:Strs w wv d.words) (hl:d.words.length≤1000) (hsm:Hid (∀s∈d.words,s.size≤1000)) :
  Calls Tryz.prog 221 #[.pointer (some ⟨g,0,none⟩)] w (RetB w (d.words.any fun s => !nameB s)):=by
 obtain ⟨c0,c1,c2,c3,c4⟩:=hd
 go_enter Tryz.func221,Tryz.ntmps221
 go_wp2_with (go_at_call 104;refine (containsStr _ d.words _ (fun s => !nameB s) _ hs (by omega) callD81 (fun x hx w' _=>def81 x w' (hsm.out x hx))).mono ?_;rintro e w' ⟨rfl,hb⟩)
 go_ret
 exact RetB.mk rfl hb
theorem def9 (g:Nat) (d:PDef) (wv:Value) (w:World) (hd:DefAt w g 0 d wv) (hs:Strs w wv d.words) (hl:d.words.length≤1000):Calls Tryz.prog 223 #[.pointer (some ⟨g,0,none⟩)] w (RetB w (!riseB d.words)):=by
 obtain ⟨c0,c1,c2,c3,c4⟩:=hd
 go_enter Tryz.func223,Tryz.ntmps223
 go_wp2_with (go_at_call 224;refine (attrRising _ d.words _ hs (by omega)).mono ?_;rintro e w' ⟨rfl,n,rfl⟩)
 go_ret
 exact RetB.mk rfl (below_drewN _ _)
theorem cD1:CallOk 213:=fun _ _=>by kernel_rfl
theorem cD2:CallOk 215:=fun _ _=>by kernel_rfl
theorem cD3:CallOk 216:=fun _ _=>by kernel_rfl
theorem cD4:CallOk 217:=fun _ _=>by kernel_rfl
theorem cD5:CallOk 218:=fun _ _=>by kernel_rfl
theorem cD6:CallOk 219:=fun _ _=>by kernel_rfl
theorem cD7:CallOk 220:=fun _ _=>by kernel_rfl
theorem cD8:CallOk 221:=fun _ _=>by kernel_rfl
theorem cD9:CallOk 223:=fun _ _=>by kernel_rfl
end Go.Proofs.YtoamkpgaaanafaaGreat

/- Walks: def, Check of attr. -/
namespace Go.Proofs.YtoamkpgaaanafaaGreat
set_option linter.unusedSimpArgs false
set_option linter.unusedVariables false
set_option linter.unnecessarySimpa false
open Go.RowKit
theorem flat_get {α:Type} (k:Nat):∀(rows:List (List α)),(∀r∈rows,r.length=k)→∀(i j:Nat) (r:List α) (u:α),rows[i]? = some r→r[j]? = some u→rows.flatten[i * k+j]? = some u
 | [],_,i,j,r,u,h,_=>by simp at h
 |x :: xs,hk,0,j,r,u,h,hu=>by
  simp at h;subst h
  have hj:j < x.length:=(List.getElem?_eq_some_iff.1 hu).1
  rw [List.flatten_cons,Nat.zero_mul,Nat.zero_add,List.getElem?_append_left hj]
  exact hu
 |x :: xs,hk,i+1,j,r,u,h,hu=>by
  have hx:=hk x (by simp)
  rw [List.flatten_cons,List.getElem?_append_right (by rw [hx,Nat.succ_mul];omega),hx]
  have e:(i+1) * k+j - k=i * k+j:=by rw [Nat.succ_mul];omega
  rw [e]
  exact flat_get k xs (fun r hr=>hk r (by simp [hr])) i j r u (by simpa using h) hu
theorem RdS.lit (w:World) (k:Nat) (rows:List (List Value)) (hk:∀r∈rows,r.length=k) (T:TypeId) (hm:rows.length≤maxLen) :
  RdS (w.alloc (.cells rows.flatten.toArray T)) (.slice (some ⟨w.heap.size,0,none⟩) rows.length rows.length) k rows:=by
 refine ⟨_,_,w.heap.size,0,rfl,Nat.le_refl _,hm,fun _=>rfl,fun i j r u hr hu=>?_⟩
 have:=flat_get k rows hk i j r u hr hu
 rw [←this]
 simp [cell_of_row _ _ _ _ _ (0,0) (heap_alloc_new w (.cells rows.flatten.toArray T))]
theorem Rules.lit (w:World) (rs:List Rule) (T:TypeId) (hm:rs.length≤1000):Rules (w.alloc (.cells (rs.map ruleC).flatten.toArray T)) (.slice (some ⟨w.heap.size,0,none⟩) rs.length rs.length) rs:=by
 have:=RdS.lit w 2 (rs.map ruleC) (by intro r hr;obtain ⟨x,_,rfl⟩:=List.mem_map.1 hr;rfl) T (by simp [maxLen];omega)
 simpa [Rules] using this
theorem Rules.mk {w:World} {g n:Nat} {T:TypeId} {cs:Array Value} (rs:List Rule) (hm:rs.length≤1000) (hg:g=w.heap.size) (hn:n=rs.length) (hcs:cs=(rs.map ruleC).flatten.toArray) :
  Rules (w.alloc (.cells cs T)) (.slice (some ⟨g,0,none⟩) n n) rs:=by
 subst hg hn hcs
 exact Rules.lit w rs T hm
def defA (d:PDef) (bf:ByteArray):List (Bool×Int) := [(!nameB d.name,5),(leqB d.name bf,6),(kindBad d,130)]
def defBI (d:PDef):List (Bool×Int) := [(rangeBad d,131),(decide (0 < d.words.length),3)]
def defBW (d:PDef):List (Bool×Int) := [(formBad d,3),(manyBad d,2),(d.words.any fun s => !nameB s,5),(!riseB d.words,6)]
theorem defE_bad (d:PDef) (bf:ByteArray) (h:firstE (defA d bf)≠0):defE d bf=firstE (defA d bf):=by
 unfold defE
 revert h
 simp only [defA,firstE,kindBad]
 cases nameB d.name<;>cases leqB d.name bf<;>simp<;>(try (intro h1 h2;rw [if_neg h1,if_neg h2,if_pos ⟨h1,h2⟩]))
theorem defE_int (d:PDef) (bf:ByteArray) (h:firstE (defA d bf)=0) (hk:d.kind=1):defE d bf=firstE (defBI d):=by
 unfold defE
 revert h
 simp only [defA,firstE,kindBad,defBI,rangeBad]
 cases nameB d.name<;>cases leqB d.name bf<;>simp [hk]
theorem defE_word (d:PDef) (bf:ByteArray) (h:firstE (defA d bf)=0) (hk:d.kind≠1):defE d bf=firstE (defBW d):=by
 unfold defE
 revert h
 simp only [defA,firstE,kindBad,defBW,formBad,manyBad,wordsE]
 cases nameB d.name<;>cases leqB d.name bf<;>simp [hk]
 intro h2'
 cases riseB d.words<;>simp [h2']
theorem DefAt.box (w:World) (d:PDef) (wv:Value) (T:TypeId):DefAt (w.alloc (.cells #[.string d.name, .int .i64 d.kind, .int .i64 d.lo, .int .i64 d.hi,wv] T)) w.heap.size 0 d wv:=by
 refine ⟨?_,?_,?_,?_,?_⟩<;>simp
theorem below_two (w:World) (o p:Obj):Below w.heap.size w ((w.alloc o).alloc p):=(below_alloc w o).trans ((below_alloc _ p).mono (below_alloc w o).size)
theorem below_three (w:World) (o p q:Obj):Below w.heap.size w (((w.alloc o).alloc p).alloc q):=(below_two w o p).trans ((below_alloc _ q).mono (below_two w o p).size)
theorem blift {w w1 w2:World} (h:Below w.heap.size w w1) (h2:Below w1.heap.size w1 w2):Below w.heap.size w w2:=h.trans (h2.mono h.size)
def EnvD (d:PDef) (wv:Value) (bf:ByteArray) (g h:Nat) (w:World):Prop:=DefAt w g 0 d wv∧Strs w wv d.words∧w.cell? ⟨h,0,none⟩=some (.string bf)
theorem EnvD.below {d:PDef} {wv:Value} {bf:ByteArray} {g h:Nat} {w w' : World} (e:EnvD d wv bf g h w) (hb:Below w.heap.size w w'):EnvD d wv bf g h w':=
 ⟨e.1.below hb,e.2.1.below hb,below_cell hb e.2.2⟩
def rulesA (d:PDef) (bf:ByteArray) (g h:Nat):List Rule := [⟨213,#[.pointer (some ⟨g,0,none⟩)],!nameB d.name,5⟩,⟨215,#[.pointer (some ⟨g,0,none⟩), .pointer (some ⟨h,0,none⟩)],leqB d.name bf,6⟩,⟨216,#[.pointer (some ⟨g,0,none⟩)],kindBad d,130⟩]
def rulesBI (d:PDef) (g:Nat):List Rule := [⟨217,#[.pointer (some ⟨g,0,none⟩)],rangeBad d,131⟩,⟨218,#[.pointer (some ⟨g,0,none⟩)],decide (0 < d.words.length),3⟩]
def rulesBW (d:PDef) (g:Nat):List Rule := [⟨219,#[.pointer (some ⟨g,0,none⟩)],formBad d,3⟩,⟨220,#[.pointer (some ⟨g,0,none⟩)],manyBad d,2⟩,⟨221,#[.pointer (some ⟨g,0,none⟩)],d.words.any fun s => !nameB s,5⟩,⟨223,#[.pointer (some ⟨g,0,none⟩)],!riseB d.words,6⟩]
theorem runA {d:PDef} {wv:Value} {bf:ByteArray} {g h:Nat} {w:World} (e:EnvD d wv bf g h w) (hs:SmallD d) (v:Value) (hv:Rules w v (rulesA d bf g h)) :
  Calls Tryz.prog 87 #[v] w (RetI w (firstE (defA d bf))):=by
 refine attrFirst v (rulesA d bf g h) w hv (Nat.le_of_ble_eq_true rfl) ?_ ?_
 ·intro r hr
  simp only [rulesA,List.mem_cons,List.not_mem_nil,or_false] at hr
  rcases hr with rfl|rfl|rfl
  ·exact cD1
  ·exact cD2
  ·exact cD3
 ·intro r hr w' hb
  have e':=e.below hb
  simp only [rulesA,List.mem_cons,List.not_mem_nil,or_false] at hr
  rcases hr with rfl|rfl|rfl
  ·exact def1 g d wv w' e'.1 hs.1
  ·exact def2 g h d wv bf w' e'.1 e'.2.2
  ·exact def3 g d wv w' e'.1
theorem runBI {d:PDef} {wv:Value} {bf:ByteArray} {g h:Nat} {w:World} (e:EnvD d wv bf g h w) (hs:SmallD d) (v:Value) (hv:Rules w v (rulesBI d g)) :
  Calls Tryz.prog 87 #[v] w (RetI w (firstE (defBI d))):=by
 refine attrFirst v (rulesBI d g) w hv (Nat.le_of_ble_eq_true rfl) ?_ ?_
 ·intro r hr
  simp only [rulesBI,List.mem_cons,List.not_mem_nil,or_false] at hr
  rcases hr with rfl|rfl
  ·exact cD4
  ·exact cD5
 ·intro r hr w' hb
  have e':=e.below hb
  simp only [rulesBI,List.mem_cons,List.not_mem_nil,or_false] at hr
  rcases hr with rfl|rfl
  ·exact def4 g d wv w' e'.1
  ·exact def5 g d wv w' e'.1 e'.2.1 hs.2.1
theorem runBW {d:PDef} {wv:Value} {bf:ByteArray} {g h:Nat} {w:World} (e:EnvD d wv bf g h w) (hs:SmallD d) (v:Value) (hv:Rules w v (rulesBW d g)) :
  Calls Tryz.prog 87 #[v] w (RetI w (firstE (defBW d))):=by
 refine attrFirst v (rulesBW d g) w hv (Nat.le_of_ble_eq_true rfl) ?_ ?_
 ·intro r hr
  simp only [rulesBW,List.mem_cons,List.not_mem_nil,or_false] at hr
  rcases hr with rfl|rfl|rfl|rfl
  ·exact cD6
  ·exact cD7
  ·exact cD8
  ·exact cD9
 ·intro r hr w' hb
  have e':=e.below hb
  simp only [rulesBW,List.mem_cons,List.not_mem_nil,or_false] at hr
  rcases hr with rfl|rfl|rfl|rfl
  ·exact def6 g d wv w' e'.1
  ·exact def7 g d wv w' e'.1 e'.2.1 hs.2.1
  ·exact def8 g d wv w' e'.1 e'.2.1 hs.2.1 hs.2.2
  ·exact def9 g d wv w' e'.1 e'.2.1 hs.2.1
theorem EnvD.boxes (d:PDef) (wv:Value) (bf:ByteArray) (w:World) (hs:Strs w wv d.words) (o:Obj) :
  EnvD d wv bf w.heap.size (w.heap.size+1) (((w.alloc (.cells #[.string d.name, .int .i64 d.kind, .int .i64 d.lo, .int .i64 d.hi,wv] 77)).alloc (.cells #[.string bf] 9)).alloc o):=by
 refine EnvD.below ⟨(DefAt.box w d wv _).below (below_alloc _ _),hs.below (below_two _ _ _),?_⟩ (below_alloc _ _)
 have:=cell_of_row _ _ 0 _ _ (0,0) (heap_alloc_new (w.alloc (.cells #[.string d.name, .int .i64 d.kind, .int .i64 d.lo, .int .i64 d.hi,wv] 77)) (.cells #[.string bf] 9))
 simpa using this
set_option maxRecDepth 100000 in
set_option maxHeartbeats 1000000 in
theorem attrDef (d:PDef) (wv:Value) (bf:ByteArray) (w:World) (hs:Strs w wv d.words) (hsm:SmallD d) :
  Calls Tryz.prog 132 #[defV d wv, .string bf] w (RetI w (defE d bf)):=by
 have HE:=Lib.hid (EnvD.boxes d wv bf w hs)
 have HS:=Lib.hid hsm
 have HB:=fun o=>below_three w (.cells #[.string d.name, .int .i64 d.kind, .int .i64 d.lo, .int .i64 d.hi,wv] 77) (.cells #[.string bf] 9) o
 have HB:=Lib.hid HB
 clear hs hsm
 unfold defV
 by_cases e1:firstE (defA d bf)=0
 ·have E1:(firstE (defA d bf) != 0)=false:=by simpa using e1
  by_cases hk:d.kind=1
  ·have F:=defE_int d bf e1 hk
   have K:(d.kind == 1)=true:=by simpa using hk
   rw [F]
   clear F e1 hk
   go_enter Tryz.func132,Tryz.ntmps132
   go_wp2_with fail
   refine (runA (HE.out _) HS.out _ (Rules.mk (rulesA d bf _ _) (Nat.le_of_ble_eq_true rfl) (by simp) rfl rfl)).mono ?_
   rintro e w1 ⟨rfl,hb⟩
   have hE:=Lib.hid ((HE.out _).below hb)
   have hB:=Lib.hid (blift (HB.out _) hb)
   clear HE HB hb
   generalize firstE (defA d bf)=x1 at *
   have c1:=hE.out.1.2.1
   go_wp2_with fail
   refine (runBI (hE.out.below (below_alloc _ _)) HS.out _ (Rules.mk (rulesBI d _) (Nat.le_of_ble_eq_true rfl) (by simp) rfl rfl)).mono ?_
   rintro e w2 ⟨rfl,hb⟩
   go_wp2
   go_ret
   exact RetI.mk rfl (blift (blift hB.out (below_alloc _ _)) hb)
  ·have F:=defE_word d bf e1 hk
   have K:(d.kind == 1)=false:=by simpa using hk
   rw [F]
   clear F e1 hk
   go_enter Tryz.func132,Tryz.ntmps132
   go_wp2_with fail
   refine (runA (HE.out _) HS.out _ (Rules.mk (rulesA d bf _ _) (Nat.le_of_ble_eq_true rfl) (by simp) rfl rfl)).mono ?_
   rintro e w1 ⟨rfl,hb⟩
   have hE:=Lib.hid ((HE.out _).below hb)
   have hB:=Lib.hid (blift (HB.out _) hb)
   clear HE HB hb
   generalize firstE (defA d bf)=x1 at *
   have c1:=hE.out.1.2.1
   go_wp2_with fail
   refine (runBW (hE.out.below (below_alloc _ _)) HS.out _ (Rules.mk (rulesBW d _) (Nat.le_of_ble_eq_true rfl) (by simp) rfl rfl)).mono ?_
   rintro e w2 ⟨rfl,hb⟩
   go_wp2
   go_ret
   exact RetI.mk rfl (blift (blift hB.out (below_alloc _ _)) hb)
 ·have F:=defE_bad d bf e1
  have E1:(firstE (defA d bf) != 0)=true:=by simpa using e1
  rw [F]
  clear F e1
  go_enter Tryz.func132,Tryz.ntmps132
  go_wp2_with fail
  refine (runA (HE.out _) HS.out _ (Rules.mk (rulesA d bf _ _) (Nat.le_of_ble_eq_true rfl) (by simp) rfl rfl)).mono ?_
  rintro e w1 ⟨rfl,hb⟩
  have hB:=Lib.hid (blift (HB.out _) hb)
  clear HE HB hb
  generalize firstE (defA d bf)=x1 at *
  go_wp2
  go_ret
  exact RetI.mk rfl hB.out
end Go.Proofs.YtoamkpgaaanafaaGreat

/- Walks: Check of attr. -/
namespace Go.Proofs.YtoamkpgaaanafaaGreat
set_option linter.unusedSimpArgs false
set_option linter.unusedVariables false
set_option linter.unnecessarySimpa false
open Go.RowKit
def SmallS (s:PSchema):Prop:=s.defs.length≤1000∧∀d∈s.defs,SmallD d
def argBad (s:PSchema):Bool:=decide (s.dims < 1) || (decide (32 < s.dims) || (decide (s.metric < 1) || decide (3 < s.metric)))
def chkGo (x:Int) (b:ByteArray) (l:List PDef):Int:=if x≠0 then x else defsE b l
theorem chkGo_drop (l:List PDef) (k:Nat) (b:ByteArray) (d:PDef) (h:l[k]? = some d):chkGo 0 b (l.drop k)=chkGo (defE d b) d.name (l.drop (k+1)):=by
 obtain ⟨hk,rfl⟩:=List.getElem?_eq_some_iff.1 h
 rw [List.drop_eq_getElem_cons (by omega)]
 simp [chkGo,defsE]
theorem chkGo_end (l:List PDef) (k:Nat) (x:Int) (b:ByteArray) (h:l.length≤k):chkGo x b (l.drop k)=x:=by
 rw [List.drop_eq_nil_of_le h]
 simp [chkGo,defsE]
 intro h;exact h.symm
theorem chkGo_bad (x:Int) (b:ByteArray) (l:List PDef) (h:x≠0):chkGo x b l=x:=by simp [chkGo,h]
theorem checkE_chk (s:PSchema):checkE s=chkGo (firstE [(argBad s,1),(decide (16 < s.defs.length),2)]) ByteArray.empty s.defs:=by
 unfold checkE chkGo
 simp only [firstE,argBad,Bool.or_eq_true,decide_eq_true_eq]
 by_cases h:s.dims < 1∨32 < s.dims∨s.metric < 1∨3 < s.metric
 ·simp only [if_pos h];simp
 ·by_cases h2:16 < s.defs.length
  ·simp only [if_neg h,if_pos h2];simp
  ·simp only [if_neg h,if_neg h2];simp
def SchAt (w:World) (g:Nat) (s:PSchema) (dv:Value):Prop:=w.cell? ⟨g,0,none⟩=some (.int .i64 s.dims)∧w.cell? ⟨g,1,none⟩=some (.int .i64 s.metric)∧w.cell? ⟨g,2,none⟩=some dv∧Defs w dv s.defs
theorem SchAt.below {w w' : World} {g:Nat} {s:PSchema} {dv:Value} (h:SchAt w g s dv) (hb:Below w.heap.size w w'):SchAt w' g s dv:=
 ⟨below_cell hb h.1,below_cell hb h.2.1,below_cell hb h.2.2.1,h.2.2.2.below hb⟩
theorem SchAt.box (w:World) (s:PSchema) (dv:Value) (T:TypeId) (h:Defs w dv s.defs):SchAt (w.alloc (.cells #[.int .i64 s.dims, .int .i64 s.metric,dv] T)) w.heap.size s dv:=by
 refine ⟨?_,?_,?_,h.below (below_alloc _ _)⟩<;>simp
theorem check1 (g:Nat) (s:PSchema) (dv:Value) (w:World) (h:SchAt w g s dv):Calls Tryz.prog 130 #[.pointer (some ⟨g,0,none⟩)] w (RetB w (argBad s)):=by
 obtain ⟨c0,c1,c2,-⟩:=h
 cases e:decide (s.dims < 1)<;>cases e2:decide (32 < s.dims)<;>cases e3:decide (s.metric < 1)
 all_goals
  go_enter Tryz.func130,Tryz.ntmps130
  go_wp2
  go_ret
  exact RetB.mk (by simp [argBad,e,e2,e3]) (Below.refl _ _)
theorem check2 (g:Nat) (s:PSchema) (dv:Value) (w:World) (h:SchAt w g s dv) (hl:s.defs.length≤1000):Calls Tryz.prog 131 #[.pointer (some ⟨g,0,none⟩)] w (RetB w (decide (16 < s.defs.length))):=by
 obtain ⟨c0,c1,c2,hd⟩:=h
 obtain ⟨a,cap,b,off,rfl,-⟩:=hd.open
 have e:decide ((16:Int) < (s.defs.length:Int))=decide (16 < s.defs.length):=by rw [Bool.eq_iff_iff];simp only [decide_eq_true_eq];omega
 have E:=Lib.hid e
 clear e
 go_enter Tryz.func131,Tryz.ntmps131
 go_wp2
 go_ret
 exact RetB.mk E.out (Below.refl _ _)
theorem cC1:CallOk 130:=fun _ _=>by kernel_rfl
theorem cC2:CallOk 131:=fun _ _=>by kernel_rfl
def rulesC (s:PSchema) (g:Nat):List Rule := [⟨130,#[.pointer (some ⟨g,0,none⟩)],argBad s,1⟩,⟨131,#[.pointer (some ⟨g,0,none⟩)],decide (16 < s.defs.length),2⟩]
theorem runC {s:PSchema} {dv:Value} {g:Nat} {w:World} (e:SchAt w g s dv) (hl:s.defs.length≤1000) (v:Value) (hv:Rules w v (rulesC s g)) :
  Calls Tryz.prog 87 #[v] w (RetI w (firstE [(argBad s,1),(decide (16 < s.defs.length),2)])):=by
 refine attrFirst v (rulesC s g) w hv (Nat.le_of_ble_eq_true rfl) ?_ ?_
 ·intro r hr
  simp only [rulesC,List.mem_cons,List.not_mem_nil,or_false] at hr
  rcases hr with rfl|rfl
  ·exact cC1
  ·exact cC2
 ·intro r hr w' hb
  have e':=e.below hb
  simp only [rulesC,List.mem_cons,List.not_mem_nil,or_false] at hr
  rcases hr with rfl|rfl
  ·exact check1 g s dv w' e'
  ·exact check2 g s dv w' e' hl
set_option maxRecDepth 100000 in
set_option maxHeartbeats 1000000 in
theorem attrCheck (v:Value) (s:PSchema) (w:World) (hv:SchemaV w v s) (hsm:SmallS s):Calls Tryz.prog 54 #[v] w (RetI w (checkE s)):=by
 obtain ⟨dv,rfl,hd⟩:=hv
 obtain ⟨s1,s2⟩:=hsm
 have S2:Hid (∀d∈s.defs,SmallD d):=s2
 have HB:=Lib.hid (SchAt.box w s dv 24 hd)
 have hw0:Below w.heap.size w (w.alloc (.cells #[.int .i64 s.dims, .int .i64 s.metric,dv] 24)):=below_alloc _ _
 have C:=Lib.hid (checkE_chk s)
 clear s2 hd
 go_enter Tryz.func54,Tryz.ntmps54
 go_wp2_with fail
 generalize hw:w.alloc (.cells #[.int .i64 s.dims, .int .i64 s.metric,dv] 24)=w0 at *
 have hsz:w.heap.size+1=w0.heap.size:=by rw [←hw];simp
 clear hw
 refine (runC (HB.out.below (below_alloc _ _)) (by omega) _ (Rules.mk (rulesC s _) (Nat.le_of_ble_eq_true rfl) (by rw [←hsz]) rfl rfl)).mono ?_
 rintro e w1 ⟨rfl,hb⟩
 have hb1:=blift (below_alloc _ _) hb
 clear hb hsz
 generalize firstE [(argBad s,1),(decide (16 < s.defs.length),2)]=x1 at *
 have ha:=HB.out.2.2.2.open
 go_wp2
 go_loopw [3,4,5] (fun e b i wr=>∃(k:Nat) (x:Int) (bf:ByteArray),k≤s.defs.length∧i = .int .i64 k∧e = .int .i64 x∧b = .string bf∧Below w0.heap.size w0 wr∧Hid (checkE s=chkGo x bf (s.defs.drop k))) (fun _ _ i _=>s.defs.length - (intOf i).toNat)
 case atStart=>exact ⟨0,x1,_,by omega,rfl,rfl,rfl,hb1,C.out⟩
 case round=>
  obtain ⟨k,x,bf,hk,rfl,rfl,rfl,hb,hh⟩:=hrel
  obtain ⟨a,cap,b,off,rfl,-,-,ha,hc⟩:=ha
  have HS:=Lib.hid (HB.out.below hb)
  have c2:=HS.out.2.2.1
  by_cases hlt:k < s.defs.length
  ·by_cases hx:x=0
   ·subst hx
    obtain ⟨y,hy⟩:=ints_get s.defs k (by omega)
    obtain ⟨wv,hd,hs⟩:=hc.out k y hy
    obtain ⟨d0,d1,d2,d3,d4⟩:=hd.below hb
    have H:=Lib.hid (chkGo_drop s.defs k bf y hy)
    have hs':=Lib.hid (hs.below hb)
    have hsm:=Lib.hid (S2.out y (List.mem_of_getElem? hy))
    obtain rfl:=ha (by omega)
    clear hs hd hc hy ha
    go_wp2_with fail
    refine (attrDef y wv bf _ hs'.out hsm.out).mono ?_
    rintro e w2 ⟨rfl,hb2⟩
    have d0':=below_cell hb2 d0
    have c2':=below_cell hb2 c2
    have hb3:=blift hb hb2
    clear hb hb2 d0 d1 d2 d3 d4 c2 hs'
    go_wp2
    go_roundw
    case rel=>exact ⟨k+1,_,_,by omega,by go_num,rfl,rfl,hb3,by rw [Hid,hh.out,H.out]⟩
    case measure=>simp [intOf];omega
   ·have hx' : (x == 0)=false:=by simpa using hx
    have F:=Lib.hid (chkGo_bad x bf (s.defs.drop k) hx)
    clear hx hc ha
    go_wp2
    go_ret
    exact RetI.mk (by rw [hh.out,F.out]) (blift hw0 hb)
  ·have F:=Lib.hid (chkGo_end s.defs k x bf (by omega))
   clear hc ha
   go_wp2
   go_ret
   exact RetI.mk (by rw [hh.out,F.out]) (blift hw0 hb)
end Go.Proofs.YtoamkpgaaanafaaGreat

/- Walks: FewDefs, Few, Find of antiquaryref13. -/
namespace Go.Proofs.YtoamkpgaaanafaaGreat
set_option linter.unusedSimpArgs false
set_option linter.unusedVariables false
set_option linter.unnecessarySimpa false
open Go.RowKit
def FewRet (w:World) (p:Prop) (e:Ending) (w' : World):Prop:=∃b:Bool,e = .returned (.bool b)∧(b=true→p)∧Below w.heap.size w w'
theorem FewRet.mk {w w' : World} {p:Prop} {b:Bool} (h:b=true→p) (hb:Below w.heap.size w w'):FewRet w p (.returned (.bool b)) w':=⟨b,rfl,h,hb⟩
def FewD (d:PDef):Prop:=d.words.length≤60∧d.name.size≤100∧∀s∈d.words,s.size≤100
def FewS (s:PSchema):Prop:=s.defs.length≤20∧∀d∈s.defs,FewD d
theorem FewS.small {s:PSchema} (h:FewS s):SmallS s:=⟨by have:=h.1;omega,fun d hd=>⟨by have:=(h.2 d hd).2.1;omega,by have:=(h.2 d hd).1;omega,fun x hx=>by have:=(h.2 d hd).2.2 x hx;omega⟩⟩
def EntAt (w:World) (g:Nat) (e:PEntry) (vv av:Value):Prop:=
 w.cell? ⟨g,0,none⟩=some (.int .i64 e.id)∧w.cell? ⟨g,1,none⟩=some (.int .i64 e.ver)∧w.cell? ⟨g,2,none⟩=some (.int .i64 e.owner)∧w.cell? ⟨g,3,none⟩=some (.int .i64 e.filed) ∧
 w.cell? ⟨g,4,none⟩=some (.int .i64 e.frm)∧w.cell? ⟨g,5,none⟩=some (.int .i64 e.to)∧w.cell? ⟨g,6,none⟩=some (.int .i64 e.born)∧w.cell? ⟨g,7,none⟩=some vv∧w.cell? ⟨g,8,none⟩=some av∧Ints w vv e.vec∧Attrs w av e.attrs
theorem EntAt.below {w w' : World} {g:Nat} {e:PEntry} {vv av:Value} (h:EntAt w g e vv av) (hb:Below w.heap.size w w'):EntAt w' g e vv av:=by
 obtain ⟨h0,h1,h2,h3,h4,h5,h6,h7,h8,h9,h10⟩:=h
 exact ⟨below_cell hb h0,below_cell hb h1,below_cell hb h2,below_cell hb h3,below_cell hb h4,below_cell hb h5,below_cell hb h6,below_cell hb h7,below_cell hb h8,h9.below hb,h10.below hb⟩
theorem EntAt.box (w:World) (e:PEntry) (vv av:Value) (T:TypeId) (h:Ints w vv e.vec) (h2:Attrs w av e.attrs):EntAt (w.alloc (.cells #[.int .i64 e.id, .int .i64 e.ver, .int .i64 e.owner, .int .i64 e.filed, .int .i64 e.frm, .int .i64 e.to, .int .i64 e.born,vv,av] T)) w.heap.size e vv av:=by
 refine ⟨?_,?_,?_,?_,?_,?_,?_,?_,?_,h.below (below_alloc _ _),h2.below (below_alloc _ _)⟩<;>simp
end Go.Proofs.YtoamkpgaaanafaaGreat

/- Walks: Value, Get of antiquaryref13; Get of attr. -/
namespace Go.Proofs.YtoamkpgaaanafaaGreat
set_option linter.unusedSimpArgs false
set_option linter.unusedVariables false
set_option linter.unnecessarySimpa false
open Go.RowKit
theorem AttrAt.box (w:World) (a:PAttr) (T:TypeId):AttrAt (w.alloc (.cells #[.string a.name, .int .i64 a.kind, .int .i64 a.n, .string a.s] T)) w.heap.size 0 a:=by
 refine ⟨?_,?_,?_,?_⟩<;>simp
theorem eqB_empty (s:ByteArray):eqB s ByteArray.empty=s.toList.isEmpty:=by
 have e:ByteArray.empty.toList = []:=by unfold ByteArray.toList ByteArray.toList.loop;rfl
 unfold eqB
 rw [e]
 cases h:s.toList<;>rfl
def GotRet (w:World) (r:PAttr×Bool) (e:Ending) (w' : World):Prop:=
 e = .returned (.agg #[.string r.1.name, .int .i64 r.1.kind, .int .i64 r.1.n, .string r.1.s, .bool r.2])∧Below w.heap.size w w'
theorem GotRet.mk {w w' : World} {r:PAttr×Bool} {a:PAttr} {b:Bool} (h:r=(a,b)) (hb:Below w.heap.size w w'):GotRet w r (.returned (.agg #[.string a.name, .int .i64 a.kind, .int .i64 a.n, .string a.s, .bool b])) w':=by
 subst h;exact ⟨rfl,hb⟩
theorem get1 (g:Nat) (x:PAttr) (nm:ByteArray) (w:World) (c5:w.cell? ⟨g,0,none⟩=some (.string nm)) :
  Calls Tryz.prog 98 #[attrV x, .pointer (some ⟨g,0,none⟩)] w (RetB w (eqB x.name nm)):=by
 have hlt:=World.block_lt_of_cell? _ _ c5
 unfold attrV
 go_enter Tryz.func98,Tryz.ntmps98
 go_wp2
 go_ret
 exact RetB.mk rfl (below_alloc _ _)
theorem cG1:CallOk 98:=fun _ _=>by kernel_rfl
theorem getA_idx (l:List PAttr) (nm:ByteArray):(idxB (l.map fun x=>eqB x.name nm) = -1∧getA l nm=(zeroA,false)) ∨
  ∃(k:Nat) (a:PAttr),idxB (l.map fun x=>eqB x.name nm)=k∧l[k]? = some a∧getA l nm=(a,true):=by
 have key:∀(l:List PAttr) (j:Nat),(idxGo (l.map fun x=>eqB x.name nm) j = -1∧getA l nm=(zeroA,false)) ∨
   ∃(k:Nat) (a:PAttr),idxGo (l.map fun x=>eqB x.name nm) j=((j+k:Nat):Int)∧l[k]? = some a∧getA l nm=(a,true):=by
  intro l
  induction l with
  |nil=>intro j;exact .inl ⟨rfl,rfl⟩
  |cons x r ih=>
   intro j
   simp only [List.map_cons,idxGo,getA]
   cases e:eqB x.name nm
   ·rcases ih (j+1) with ⟨h1,h2⟩|⟨k,a,h1,h2,h3⟩
    ·left;simp only [Bool.false_eq_true,if_false];exact ⟨h1,h2⟩
    ·right;refine ⟨k+1,a,?_,h2,?_⟩
     ·simp only [Bool.false_eq_true,if_false]
      have:(((j+1:Nat):Int))=(j:Int)+1:=by omega
      rw [this] at h1;rw [h1];omega
     ·simpa using h3
   ·right;exact ⟨0,x,by simp,by simp,by simp⟩
 rcases key l 0 with h|⟨k,a,h1,h2,h3⟩
 ·exact .inl h
 ·exact .inr ⟨k,a,by simpa [idxB] using h1,h2,h3⟩
def GetRet (w:World) (r:PAttr×Bool) (e:Ending) (w' : World):Prop:=
 e = .returned (.tuple #[attrV r.1, .bool r.2])∧Below w.heap.size w w'
theorem GetRet.mk {w w' : World} {r:PAttr×Bool} {a:PAttr} {b:Bool} (h:r=(a,b)) (hb:Below w.heap.size w w'):GetRet w r (.returned (.tuple #[.agg #[.string a.name, .int .i64 a.kind, .int .i64 a.n, .string a.s], .bool b])) w':=by
 subst h;exact ⟨rfl,hb⟩
set_option maxRecDepth 100000 in
set_option maxHeartbeats 1000000 in
theorem attrGet (v:Value) (l:List PAttr) (nm:ByteArray) (w:World) (hv:Attrs w v l) (hl:l.length≤1000000) :
  Calls Tryz.prog 37 #[v, .string nm] w (GetRet w (getA l nm)):=by
 have HV:=Lib.hid hv
 obtain ⟨a,cap,b,off,rfl,hcap,hm,ha,hc⟩:=hv.open
 clear hv
 go_enter Tryz.func37,Tryz.ntmps37
 go_wp2_with fail
 refine (indexAttr _ l _ _ (fun x=>eqB x.name nm) _ (HV.out.below (below_two _ _ _)) (by omega) cG1 (fun x hx w' hb=>get1 _ x nm w' (below_cell ((blift (below_alloc _ _) hb)) (by simp)))).mono ?_
 rintro e w1 ⟨rfl,hb⟩
 have hb1:=blift (below_two _ _ _) hb
 have r0:∀j,w1.frozen? ⟨w.heap.size+1,j,none⟩=false:=fun j=>by rw [hb.frozen (by simp)];simp
 have r1:w1.cell? ⟨w.heap.size+1,0,none⟩=some (.string ⟨#[]⟩):=below_cell hb (by simp)
 have r2:w1.cell? ⟨w.heap.size+1,1,none⟩=some (.int .i64 0):=below_cell hb (by simp)
 have r3:w1.cell? ⟨w.heap.size+1,2,none⟩=some (.int .i64 0):=below_cell hb (by simp)
 have r4:w1.cell? ⟨w.heap.size+1,3,none⟩=some (.string ⟨#[]⟩):=below_cell hb (by simp)
 clear hb
 rcases getA_idx l nm with ⟨h1,h2⟩|⟨k,x,h1,h2,h3⟩
 ·have H:=Lib.hid h2
  rw [h1]
  clear h1 h2 hc ha
  go_wp2
  refine bodyPost_ret (v:=.tuple #[.agg #[.string ⟨#[]⟩, .int .i64 0, .int .i64 0, .string ⟨#[]⟩], .bool false]) (by simp [results,Tryz.results37,go_sem,r0,r1,r2,r3,r4]) rfl (GetRet.mk (a:=zeroA) H.out ((((hb1.setCell ?_ _).setCell ?_ _).setCell ?_ _).setCell ?_ _))<;>simp
 ·have H:=Lib.hid h3
  have hk:k < l.length:=(List.getElem?_eq_some_iff.1 h2).1
  obtain ⟨c0,c1,c2,c3⟩:=(hc.out k x h2).below hb1
  obtain rfl:=ha (by omega)
  have hbl:b < w.heap.size:=(hc.out k x h2).lt
  rw [h1]
  clear h1 h2 h3 hc ha
  go_wp2
  refine bodyPost_ret (v:=.tuple #[.agg #[.string x.name, .int .i64 x.kind, .int .i64 x.n, .string x.s], .bool true]) (by simp [results,Tryz.results37,go_sem,r0,r1,r2,r3,r4]) rfl (GetRet.mk H.out ((((hb1.setCell ?_ _).setCell ?_ _).setCell ?_ _).setCell ?_ _))<;>simp
end Go.Proofs.YtoamkpgaaanafaaGreat

/- The walks of wire: the bytes of a string. -/
namespace Go.Proofs.YtoamkpgaaanafaaGreat
set_option linter.unusedSimpArgs false
set_option linter.unusedVariables false
set_option linter.unnecessarySimpa false
open Go.RowKit
theorem strCells_eq (s:ByteArray):Lib.strCells s=(bytesL s).map (Value.int .u8):=by
 simp [Lib.strCells,bytesL]
end Go.Proofs.YtoamkpgaaanafaaGreat

/- The walks of wire and antiquaryref01: byte strings, lists of them. -/
namespace Go.Proofs.YtoamkpgaaanafaaGreat
set_option linter.unusedSimpArgs false
set_option linter.unusedVariables false
set_option linter.unnecessarySimpa false
open Go.RowKit
theorem elemStr:Elem1 Tryz.prog 9 (.string ⟨#[]⟩) 16:=⟨by kernel_rfl,rfl⟩
set_option maxRecDepth 100000 in
theorem refBytes (s:ByteArray) (w:World) (hs:s.size≤1000000000):Calls Tryz.prog 212 #[.string s] w (MadeBytes w (strB s)):=by
 have hl0:=intB_len s.size (by omega) (by omega)
 go_enter Tryz.func212,Tryz.ntmps212
 go_wp2_with (first|(at_builtin;refine wp_appendStr (.tmp 5) (.tmp 6) 92 9 5 elemByte rfl rfl Tryz.underlying92 Tryz.underlying9 w.heap.size _ _ s rfl ho1 rfl (by rw [List.length_map];omega) hb1.size ?_;intro v' w' hown' hb')|(go_at_call 211;refine (refInt _ _ (by omega) (by omega)).mono ?_;rintro e w1 ⟨v1,rfl,ho1,hb1⟩))
 go_ret
 exact ⟨_,rfl,by rw [strB,List.map_append,←strCells_eq];exact hown',hb1.trans hb'⟩
theorem StrsOpen {w:World} {v:Value} {l:List ByteArray} (h:Rd w v (l.map Value.string)):∃a cap b off,v = .slice a l.length cap∧l.length≤cap∧cap≤maxLen ∧
  (0 < l.length→a=some ⟨b,off,none⟩)∧Hid (∀j x,l[j]? = some x→w.cell? ⟨b,off+j,none⟩=some (.string x)):=by
 obtain ⟨a,cap,b,off,h1,h2,h3,h4,h5⟩:=h
 simp only [List.length_map] at h1 h2 h4
 exact ⟨a,cap,b,off,h1,h2,h3,h4,fun j x hx=>h5 j _ (by simp [hx])⟩
set_option maxRecDepth 100000 in
set_option maxHeartbeats 1000000 in
theorem refStrings (v:Value) (zs:List ByteArray) (w:World) (hv:Rd w v (zs.map Value.string)) (hf:SmallStrs zs) (hl:zs.length≤1000000):Calls Tryz.prog 129 #[v] w (MadeBytes w (strsB zs)):=by
 obtain ⟨a,cap,b,off,rfl,hcap,hm,ha,hc⟩:=StrsOpen hv
 have HF:=Hid.mk hf
 have hl0:=intB_len zs.length (by omega) (by omega)
 clear hv
 go_enter Tryz.func129,Tryz.ntmps129
 go_wp2_with (go_at_call 211;refine (refInt _ _ (by omega) (by omega)).mono ?_;rintro e w1 ⟨v1,rfl,ho1,hb1⟩)
 go_loopw [3,4] (fun o i wr=>∃k:Nat,k≤zs.length∧i = .int .i64 k∧Own w.heap.size 5 wr o ((intB zs.length ++ ((zs.take k).map strB).flatten).map (Value.int .u8))∧Below w.heap.size w wr) (fun _ i _=>zs.length - (intOf i).toNat)
 case atStart=>exact ⟨0,by omega,rfl,by simpa using ho1,hb1⟩
 case round=>
  obtain ⟨k,hk,rfl,hown,hb⟩:=hrel
  have HB:=Hid.mk hb
  clear hb
  have hb2:=HB.out.size
  by_cases hlt:k < zs.length
  ·obtain ⟨y,hy⟩:=ints_get zs k hlt
   have c1:=below_cell HB.out (hc.out k y hy)
   have y1:=HF.out y (List.mem_of_getElem? hy)
   have hl1:=strB_len y y1
   have hl2:=strs_len (zs.take k) (fun z hz=>HF.out z (List.mem_of_mem_take hz))
   have hl3:(zs.take k).length≤zs.length:=by rw [List.length_take];omega
   obtain rfl:=ha (by omega)
   have T:=Hid.mk (strs_take zs k y hy)
   clear ha hy
   go_wp2_with (first|(at_builtin;refine wp_append (.tmp 14) (.tmp 19) 92 5 1 _ elemByte rfl rfl Tryz.underlying92 w.heap.size _ _ _ _ rfl (hown.kept hb3) rfl ho3.rd (by simp only [List.length_map];omega) (oneCells _ _) (by simp only [List.length_map,List.length_append,maxLen];omega) (by simp only [List.length_map,List.length_append];omega) (by have:=hb3.size;omega) ?_;intro v' w' hown' hb')|(go_at_call 212;refine (refBytes _ _ (by omega)).mono ?_;rintro e w3 ⟨v3,rfl,ho3,hb3⟩))
   go_roundw
   case rel=>exact ⟨k+1,by omega,by go_num,by rw [T.out,←List.append_assoc,List.map_append];exact hown',(HB.out.trans (hb3.mono hb2)).trans hb'⟩
   case measure=>simp [intOf];omega
  ·have e:zs.take k=zs:=List.take_of_length_le (by omega)
   rw [e] at hown
   go_wp2
   go_ret
   exact ⟨_,rfl,hown,HB.out⟩
end Go.Proofs.YtoamkpgaaanafaaGreat

/- The walks of wire and antiquaryref01: byte strings, decoded. -/
namespace Go.Proofs.YtoamkpgaaanafaaGreat
set_option linter.unusedSimpArgs false
set_option linter.unusedVariables false
set_option linter.unnecessarySimpa false
open Go.RowKit
def MadeStrsN (w:World) (r:List ByteArray×Int×Int) (e:Ending) (w' : World):Prop:=
 ∃v,e = .returned (.tuple #[v, .int .i64 r.2.1, .int .i64 r.2.2])∧Own w.heap.size 9 w' v (r.1.map Value.string)∧Below w.heap.size w w'
theorem MadeStrsN.mk {w w' : World} {r:List ByteArray×Int×Int} {l:List ByteArray} {x y:Int} {v:Value} (h:r=(l,x,y)) (ho:Own w.heap.size 9 w' v (l.map Value.string)) (hb:Below w.heap.size w w') :
  MadeStrsN w r (.returned (.tuple #[v, .int .i64 x, .int .i64 y])) w':=by
 subst h;exact ⟨v,rfl,ho,hb⟩
def RetS3 (w:World) (r:ByteArray×Int×Int) (e:Ending) (w' : World):Prop:=
 e = .returned (.tuple #[.string r.1, .int .i64 r.2.1, .int .i64 r.2.2])∧Still w w'
theorem RetS3.mk {w w' : World} {r:ByteArray×Int×Int} {x:ByteArray} {y z:Int} (h:r=(x,y,z)) (hs:Still w w'):RetS3 w r (.returned (.tuple #[.string x, .int .i64 y, .int .i64 z])) w':=by
 subst h;exact ⟨rfl,hs⟩
theorem Bytes.mid {w:World} {bs:List Int} {cap b off m n:Nat} (hcap:bs.length≤cap) (hm:cap≤maxLen) (hc:∀(j:Nat) (x:Int),bs[j]? = some x→w.cell? ⟨b,off+j,none⟩=some (.int .u8 x)) (hle:m+n≤bs.length) :
  Bytes w (.slice (some ⟨b,off+m,none⟩) n (cap - m)) ((bs.drop m).take n):=by
 have hl:((bs.drop m).take n).length=n:=by rw [List.length_take,List.length_drop];omega
 refine ⟨_,cap - m,b,off+m,by rw [List.length_map,hl],by rw [List.length_map,hl];omega,by omega,fun _=>rfl,fun j u hu=>?_⟩
 rw [List.getElem?_map] at hu
 obtain ⟨x,hx,rfl⟩:=Option.map_eq_some_iff.1 hu
 rw [List.getElem?_take] at hx
 split at hx
 ·rw [List.getElem?_drop] at hx
  rw [Nat.add_assoc];exact hc _ _ hx
 ·cases hx
theorem Bytes.empty {w:World} {a:Option Addr} {c:Nat} (hc:c≤maxLen):Bytes w (.slice a 0 c) []:=
 ⟨a,c,0,0,rfl,by simp,hc,fun h=>by simp at h,fun j u hu=>by simp at hu⟩
end Go.Proofs.YtoamkpgaaanafaaGreat

/- Pure states: contracts over memory as contracts over pure values. -/
namespace Go.Proofs.YtoamkpgaaanafaaGreat
set_option linter.unusedSimpArgs false
set_option linter.unusedVariables false
set_option linter.unnecessarySimpa false
open Go.RowKit
def pattrL (a:PAttr):List PV := [pstr a.name,pint a.kind,pint a.n,pstr a.s]
def pattrs (l:List PAttr):PV:=.sl l.length 4 (l.flatMap pattrL) none
def pdefL (d:PDef):List PV := [pstr d.name,pint d.kind,pint d.lo,pint d.hi,pstrs d.words]
def pdefs (l:List PDef):PV:=.sl l.length 5 (l.flatMap pdefL) none
def pschema (s:PSchema):PV:=.agg [pint s.dims,pint s.metric,pdefs s.defs]
def pentry (e:PEntry):PV:=.agg [pint e.id,pint e.ver,pint e.owner,pint e.filed,pint e.frm,pint e.to,pint e.born,pints e.vec,pattrs e.attrs]
theorem one_pattrs (l:List PAttr):(l.flatMap pattrL).all PV.one=true:=by
 rw [List.all_eq_true]
 intro c hc
 obtain ⟨a,-,h⟩:=List.mem_flatMap.1 hc
 simp [pattrL] at h
 rcases h with rfl|rfl|rfl|rfl<;>rfl
theorem low_pattrL (a:PAttr):∀c∈pattrL a,Low c:=by intro c hc;simp [pattrL] at hc;rcases hc with rfl|rfl|rfl|rfl<;>exact .val _
theorem low_pattrs (l:List PAttr):Low (pattrs l)↔True:=⟨fun _=>trivial,fun _=>.sl _ _ _ _ (fun c hc=>by obtain ⟨a,-,h⟩:=List.mem_flatMap.1 hc;exact low_pattrL a c h)⟩
theorem low_pdefL (d:PDef):∀c∈pdefL d,Low c:=by
 intro c hc;simp [pdefL] at hc
 rcases hc with rfl|rfl|rfl|rfl|rfl
 ·exact .val _
 ·exact .val _
 ·exact .val _
 ·exact .val _
 ·exact (low_pstrs _).2 trivial
theorem low_pdefs (l:List PDef):Low (pdefs l)↔True:=⟨fun _=>trivial,fun _=>.sl _ _ _ _ (fun c hc=>by obtain ⟨a,-,h⟩:=List.mem_flatMap.1 hc;exact low_pdefL a c h)⟩
theorem low_pschema (s:PSchema):Low (pschema s)↔True:=⟨fun _=>trivial,fun _=>.agg _ (by
 intro c hc;simp at hc
 rcases hc with rfl|rfl|rfl
 ·exact .val _
 ·exact .val _
 ·exact (low_pdefs _).2 trivial)⟩
theorem low_pentry (s:PEntry):Low (pentry s)↔True:=⟨fun _=>trivial,fun _=>.agg _ (by
 intro c hc;simp at hc
 rcases hc with rfl|rfl|rfl|rfl|rfl|rfl|rfl|rfl|rfl
 ·exact .val _
 ·exact .val _
 ·exact .val _
 ·exact .val _
 ·exact .val _
 ·exact .val _
 ·exact .val _
 ·exact (low_pints _).2 trivial
 ·exact (low_pattrs _).2 trivial)⟩
section
variable {Φ:Imm} {μ:Nat→Option Nat} {w:World} (himm:∀b o u,Φ b o=some u→w.cell? ⟨b,o,none⟩=some u)
include himm
theorem rd_of_rep {α:Type} {f:α→Value} {l:List α} {n:Nat} {own:Option TypeId} {v:Value} (h:Rep Φ μ (.sl n 1 (l.map fun x=>.val (f x)) own) v):Rd w v (l.map f):=by
 obtain ⟨a,b,off,cap,us,rfl,h1,h2,h3,h4,h5,h6⟩:=h.sl_inv
 have hn:n=l.length:=by simpa using h3.symm
 subst hn
 refine ⟨a,cap,b,off,by simp,by simpa using h1,h2,by simpa using h4,fun j u hu=>?_⟩
 have hj:j < l.length:=by have:=(List.getElem?_eq_some_iff.1 hu).1;simpa using this
 have hr:=h6 j (.val (f l[j])) (by simp [hj])
 obtain ⟨e,-⟩:=hr.val_inv
 have:=himm _ _ _ (h5 j (by simpa using hj))
 rw [this,e]
 simp [hj] at hu
 rw [hu]
theorem ints_of_rep {zs:List Int} {v:Value} (h:Rep Φ μ (pints zs) v):Ints w v zs:=rd_of_rep himm h
theorem strs_of_rep {zs:List ByteArray} {v:Value} (h:Rep Φ μ (pstrs zs) v):Strs w v zs:=rd_of_rep himm h
theorem rdS_of_rep {α:Type} {c:α→List Value} {k:Nat} (hk:∀x,(c x).length=k) {l:List α} {own:Option TypeId} {v:Value} (h:Rep Φ μ (.sl l.length k (l.flatMap fun x=>(c x).map .val) own) v):RdS w v k (l.map c):=by
 obtain ⟨a,b,off,cap,us,rfl,h1,h2,h3,h4,h5,h6⟩:=h.sl_inv
 refine ⟨a,cap,b,off,by simp,by simpa using h1,h2,by simpa using h4,fun i j r u hr hu=>?_⟩
 rw [List.getElem?_map] at hr
 obtain ⟨x,hx,rfl⟩:=Option.map_eq_some_iff.1 hr
 have hget:=flatMap_get (f:=fun x=>(c x).map PV.val) (k:=k) (by intro x;simp [hk]) hx (m:=j) (c:=.val u) (by simp [hu])
 have hlt:=(List.getElem?_eq_some_iff.1 hget).1
 obtain ⟨e,-⟩:=(h6 _ _ hget).val_inv
 have:=himm _ _ _ (h5 _ hlt)
 rw [←Nat.add_assoc] at this
 rw [this,e]
theorem attrs_of_rep {l:List PAttr} {v:Value} (h:Rep Φ μ (pattrs l) v):Attrs w v l:=rdS_of_rep himm (c:=attrC) (fun _=>rfl) h
theorem defs_of_rep {l:List PDef} {v:Value} (h:Rep Φ μ (pdefs l) v):Defs w v l:=by
 obtain ⟨a,b,off,cap,us,rfl,h1,h2,h3,h4,h5,h6⟩:=h.sl_inv
 refine ⟨a,cap,b,off,rfl,h1,h2,h4,fun i d hd=>?_⟩
 have cell:∀(m:Nat) (c:PV),(pdefL d)[m]? = some c→w.cell? ⟨b,off+i * 5+m,none⟩=some (us (i * 5+m))∧Rep Φ μ c (us (i * 5+m)):=by
  intro m c hc
  have hget:=flatMap_get (f:=pdefL) (k:=5) (fun _=>rfl) hd hc
  have hlt:=(List.getElem?_eq_some_iff.1 hget).1
  have:=himm _ _ _ (h5 _ hlt)
  rw [←Nat.add_assoc] at this
  exact ⟨this,h6 _ _ hget⟩
 obtain ⟨c0,r0⟩:=cell 0 _ rfl
 obtain ⟨c1,r1⟩:=cell 1 _ rfl
 obtain ⟨c2,r2⟩:=cell 2 _ rfl
 obtain ⟨c3,r3⟩:=cell 3 _ rfl
 obtain ⟨c4,r4⟩:=cell 4 _ rfl
 refine ⟨us (i * 5+4),⟨by rw [Nat.add_zero] at c0;rw [c0,r0.val_inv.1],by rw [c1,r1.val_inv.1],by rw [c2,r2.val_inv.1],by rw [c3,r3.val_inv.1],c4⟩,strs_of_rep himm r4⟩
theorem schema_of_rep {s:PSchema} {v:Value} (h:Rep Φ μ (pschema s) v):SchemaV w v s:=by
 obtain ⟨us,rfl,hr⟩:=h.agg_inv
 match us,hr with
 | [a,b,c],hr=>
  have h0:=(hr.2 0 _ _ rfl rfl).val_inv.1
  have h1:=(hr.2 1 _ _ rfl rfl).val_inv.1
  have h2:=hr.2 2 _ _ rfl rfl
  subst h0 h1
  exact ⟨c,rfl,defs_of_rep himm h2⟩
 | [],hr=>exact absurd hr.1 (by simp)
 | [_],hr=>exact absurd hr.1 (by simp)
 | [_,_],hr=>exact absurd hr.1 (by simp)
 |_ :: _ :: _ :: _ :: _,hr=>exact absurd hr.1 (by simp)
theorem entry_of_rep {e:PEntry} {v:Value} (h:Rep Φ μ (pentry e) v):EntryV w v e:=by
 obtain ⟨us,rfl,hr⟩:=h.agg_inv
 have hl:=hr.1
 simp only [List.length_cons,List.length_nil] at hl
 have g:∀j (h:j < 9),us[j]? = some (us[j]'(by omega)):=fun j h=>by simp [hl,h]
 obtain ⟨x0,x1,x2,x3,x4,x5,x6,x7,x8,rfl⟩:∃x0 x1 x2 x3 x4 x5 x6 x7 x8,us = [x0,x1,x2,x3,x4,x5,x6,x7,x8]:=by
  match us,hl with
  | [x0,x1,x2,x3,x4,x5,x6,x7,x8],_=>exact ⟨x0,x1,x2,x3,x4,x5,x6,x7,x8,rfl⟩
 have h0:=(hr.2 0 _ _ rfl rfl).val_inv.1
 have h1:=(hr.2 1 _ _ rfl rfl).val_inv.1
 have h2:=(hr.2 2 _ _ rfl rfl).val_inv.1
 have h3:=(hr.2 3 _ _ rfl rfl).val_inv.1
 have h4:=(hr.2 4 _ _ rfl rfl).val_inv.1
 have h5:=(hr.2 5 _ _ rfl rfl).val_inv.1
 have h6:=(hr.2 6 _ _ rfl rfl).val_inv.1
 have h7:=hr.2 7 _ _ rfl rfl
 have h8:=hr.2 8 _ _ rfl rfl
 subst h0 h1 h2 h3 h4 h5 h6
 exact ⟨x7,x8,rfl,ints_of_rep himm h7,attrs_of_rep himm h8⟩
end
theorem pcalls2 {P:Program} {f:FuncId} {p q:PV} {post:PV→Prop} (hc:callB P f=true) (h:∀(Φ:Imm) (μ:Nat→Option Nat) (w:World) (v u:Value),(∀b o u,Φ b o=some u→w.cell? ⟨b,o,none⟩=some u)→Rep Φ μ p v→Rep Φ μ q u→Calls P f #[v,u] w (CallPost Φ w post)):PCalls P f [p,q] post:=by
 refine ⟨hc,fun Φ μ w vs himm hgl hr=>?_⟩
 match vs,hr with
 | [v,u],hr=>exact h Φ μ w v u himm (hr.2 0 _ _ rfl rfl) (hr.2 1 _ _ rfl rfl)
 | [],hr=>exact absurd hr.1 (by simp)
 | [_],hr=>exact absurd hr.1 (by simp)
 |_ :: _ :: _ :: _,hr=>exact absurd hr.1 (by simp)
end Go.Proofs.YtoamkpgaaanafaaGreat

/- The arguments of the laws of attr, opened. -/
namespace Go.Proofs.YtoamkpgaaanafaaGreat
set_option linter.unusedSimpArgs false
set_option linter.unusedVariables false
set_option linter.unnecessarySimpa false
open Go.ChangeShapes Go.WideShapes Go.ChangeAt Go.RowKit
theorem wf64 {z:Int} (h:(Lit.int .i64 z).wf=true):Fit64 z:=by
 simp [Lit.wf,IntKind.min,IntKind.max,IntKind.signed,IntKind.bits] at h
 exact ⟨by omega,by omega⟩
theorem opensInt:Opens Tryz.prog 3 (fun z => [pint z]) Fit64:=(opens_int Tryz.underlying3).map id (fun _ _=>rfl) (fun _ h=>wf64 h)
theorem opensStr:Opens Tryz.prog 9 (fun z => [pstr z]) (fun s=>s.size≤reachBytes):=opens_str Tryz.underlying9
theorem flatMap_one {α:Type} (f:α→PV) (l:List α):l.flatMap (fun x => [f x])=l.map f:=by
 induction l with
 |nil=>rfl
 |cons x l ih=>simp [ih]
theorem opensInts:Opens Tryz.prog 27 (fun l => [pints l]) (fun l=>(∀z∈l,Fit64 z)∧l.length * 8≤reachBytes):=
 (opens_slice Tryz.underlying27 (by kernel_rfl) (by decide) (by kernel_rfl) opensInt (fun _ _=>rfl)).map id (fun a _=>by show [pints a]=_;rw [flatMap_one];rfl) (fun _ h=>h)
theorem opensStrs:Opens Tryz.prog 75 (fun l => [pstrs l]) (fun l=>(∀z∈l,z.size≤reachBytes)∧l.length * 16≤reachBytes):=
 (opens_slice Tryz.underlying75 (by kernel_rfl) (by decide) (by kernel_rfl) opensStr (fun _ _=>rfl)).map id (fun a _=>by show [pstrs a]=_;rw [flatMap_one];rfl) (fun _ h=>h)
theorem opensDef:Opens Tryz.prog 77 pdefL (fun d=>Fit64 d.kind∧Fit64 d.lo∧Fit64 d.hi∧d.words.length * 16≤reachBytes):=
 (opens_struct Tryz.underlying77 (opensFs_1 rfl opensStr (by kernel_rfl) (opensFs_1 rfl opensInt (by kernel_rfl) (opensFs_1 rfl opensInt (by kernel_rfl) (opensFs_1 rfl opensInt (by kernel_rfl) (opensFs_1 rfl opensStrs (by kernel_rfl) opensFs_nil))))) (by kernel_rfl)).map
  (fun p=>⟨p.1,p.2.1,p.2.2.1,p.2.2.2.1,p.2.2.2.2.1⟩) (fun _ _=>rfl) (fun _ h=>by obtain ⟨a,b,c,d,e,f⟩:=h;exact ⟨b,c,d,e.2⟩)
theorem opensDefs:Opens Tryz.prog 22 (fun l => [pdefs l]) (fun l=>(∀d∈l,Fit64 d.kind∧Fit64 d.lo∧Fit64 d.hi∧d.words.length * 16≤reachBytes)∧l.length * 64≤reachBytes):=
 (opens_slice Tryz.underlying22 (by kernel_rfl) (by decide) (by kernel_rfl) opensDef (fun _ _=>rfl)).map id (fun a _=>rfl) (fun _ h=>h)
structure GoodS (s:PSchema):Prop where
 dims:Fit64 s.dims
 metric:Fit64 s.metric
 defs:∀d∈s.defs,Fit64 d.kind∧Fit64 d.lo∧Fit64 d.hi∧d.words.length * 16≤reachBytes
 len:s.defs.length * 64≤reachBytes
theorem argSchema:ArgOpens Tryz.prog 24 pschema GoodS:=
 (arg_struct Tryz.underlying24 (opens_struct Tryz.underlying24 (opensFs_1 rfl opensInt (by kernel_rfl) (opensFs_1 rfl opensInt (by kernel_rfl) (opensFs_1 rfl opensDefs (by kernel_rfl) opensFs_nil))) (by kernel_rfl))).map
  (fun p=>⟨p.1,p.2.1,p.2.2.1⟩) (fun _ _=>rfl) (fun _ h=>by obtain ⟨a,b,c,d⟩:=h;exact ⟨a,b,c.1,c.2⟩)
theorem reach_eq:reachBytes=140737488351232:=rfl
end Go.Proofs.YtoamkpgaaanafaaGreat

/- New slices of numbers and bytes. -/
namespace Go.Proofs.YtoamkpgaaanafaaGreat
set_option linter.unusedSimpArgs false
set_option linter.unusedVariables false
set_option linter.unnecessarySimpa false
open Go.RowKit
def pintsO (zs:List Int):PV:=.sl zs.length 1 (zs.map pint) (some 3)
end Go.Proofs.YtoamkpgaaanafaaGreat

/- The walks of slices.Grow, Concat. -/
namespace Go.Proofs.YtoamkpgaaanafaaGreat
set_option linter.unusedSimpArgs false
set_option linter.unusedVariables false
set_option linter.unnecessarySimpa false
open Go.RowKit
end Go.Proofs.YtoamkpgaaanafaaGreat

/- Walks: slices.Clone of ints. -/
namespace Go.Proofs.YtoamkpgaaanafaaGreat
set_option linter.unusedSimpArgs false
set_option linter.unusedVariables false
set_option linter.unnecessarySimpa false
open Go.RowKit
set_option maxRecDepth 100000 in
set_option maxHeartbeats 1000000 in
theorem slicesCloneI (v:Value) (zs:List Int) (w:World) (hv:Ints w v zs) (hl:zs.length≤1000000000):Calls Tryz.prog 137 #[v] w (MadeInts 3 w zs):=by
 have HV:=Lib.hid hv
 obtain ⟨a,cap,b,off,rfl,hcap,hm,ha,hc⟩:=hv.open
 clear hv hc
 cases a with
 |none=>
  have hz:zs = []:=List.eq_nil_of_length_eq_zero (by
   rcases Nat.eq_zero_or_pos zs.length with h|h
   ·exact h
   ·have:=ha h;cases this)
  subst hz
  clear ha
  have he:=fun (w:World)=>Lib.run_eql_slice_nil (P:=Tryz.prog) w 27 3 none 0 cap 0 0 (by kernel_rfl)
  go_enter Tryz.func137,Tryz.ntmps137
  simp only [Option.isNone_none] at he
  go_wp2
  go_ret
  exact ⟨_,rfl,Own.nil _ _ _,Below.refl _ _⟩
 |some ad=>
  clear ha
  have he:=fun (w:World)=>Lib.run_eql_slice_nil (P:=Tryz.prog) w 27 3 (some ad) zs.length cap 0 0 (by kernel_rfl)
  go_enter Tryz.func137,Tryz.ntmps137
  simp only [Option.isNone_some] at he
  have h0:=Lib.hid (show Own w.heap.size 3 (w.alloc (.cells #[] 3)) (.slice (some ⟨w.heap.size,0,none⟩) 0 0) [] from Own.lit w [] 3 w.heap.size (Nat.le_refl _) (by simp [maxLen]))
  have h1:=Lib.hid (show Rd (w.alloc (.cells #[] 3)) (.slice (some ad) zs.length cap) (zs.map (Value.int .i64)) from HV.out.below ((Below.refl _ _).alloc (Nat.le_refl _) _))
  go_wp2_with (at_builtin;refine wp_appendR _ _ 27 3 8 _ elemInt rfl rfl (by kernel_rfl) w.heap.size _ _ [] (zs.map (Value.int .i64)) rfl h0.out rfl h1.out (by intro c hc;obtain ⟨z,-,rfl⟩:=List.mem_map.1 hc;rfl) (by simp [maxLen];omega) (by simp;omega) (by simp) ?_;intro v' w' ho hb)
  go_ret
  exact ⟨_,rfl,by simpa using ho,((Below.refl _ _).alloc (Nat.le_refl _) _).trans hb⟩
end Go.Proofs.YtoamkpgaaanafaaGreat

/- The table of the program's types, as far as it matters. -/
namespace Go.Proofs.YtoamkpgaaanafaaGreat
open Go.RowKit
set_option linter.unusedSimpArgs false
def typeTab:Tab := [
 none,
 some { size:=1,agg:=false,kind:=.func,zero := [.val .nilFunc],eqs := [] },
 some { size:=1,agg:=false,kind:=.int .i64,zero := [.val (.int .i64 0)],eqs := [] },
 some { size:=1,agg:=false,kind:=.int .i64,zero := [.val (.int .i64 0)],eqs := [] },
 some { size:=1,agg:=false,kind:=.bool,zero := [.val (.bool false)],eqs := [] },
 some { size:=1,agg:=false,kind:=.int .u8,zero := [.val (.int .u8 0)],eqs := [] },
 some { size:=1,agg:=false,kind:=.int .u8,zero := [.val (.int .u8 0)],eqs := [] },
 some { size:=4,agg:=true,kind:=.struct [(0,1,false),(1,1,false),(2,1,false),(3,1,false)],zero := [.val (.int .i64 0), .val (.int .i64 0), .val (.bool false), .val (.int .u8 0)],eqs := [.int, .int, .bool, .int] },
 some { size:=4,agg:=true,kind:=.struct [(0,1,false),(1,1,false),(2,1,false),(3,1,false)],zero := [.val (.int .i64 0), .val (.int .i64 0), .val (.bool false), .val (.int .u8 0)],eqs := [.int, .int, .bool, .int] },
 some { size:=1,agg:=false,kind:=.str,zero := [.val (.string { data:={ toList := [] } })],eqs := [] },
 some { size:=1,agg:=false,kind:=.str,zero := [.val (.string { data:={ toList := [] } })],eqs := [] },
 some { size:=1,agg:=false,kind:=.str,zero := [.val (.string { data:={ toList := [] } })],eqs := [] },
 some { size:=1,agg:=false,kind:=.int .u64,zero := [.val (.int .u64 0)],eqs := [] },
 some { size:=2,agg:=true,kind:=.struct [(0,1,false),(1,1,false)],zero := [.val (.string { data:={ toList := [] } }), .val (.int .u64 0)],eqs := [] },
 some { size:=2,agg:=true,kind:=.struct [(0,1,false),(1,1,false)],zero := [.val (.string { data:={ toList := [] } }), .val (.int .u64 0)],eqs := [] },
 some { size:=1,agg:=false,kind:=.ptr,zero := [.val (.pointer none)],eqs := [] },
 some { size:=1,agg:=false,kind:=.ptr,zero := [.val (.pointer none)],eqs := [] },
 some { size:=1,agg:=false,kind:=.ptr,zero := [.val (.pointer none)],eqs := [] },
 some { size:=1,agg:=true,kind:=.struct [(0,1,false)],zero := [.val (.pointer none)],eqs := [] },
 some { size:=1,agg:=true,kind:=.struct [(0,1,false)],zero := [.val (.pointer none)],eqs := [] },
 some { size:=1,agg:=false,kind:=.other,zero := [.val .nilIface],eqs := [] },
 some { size:=1,agg:=false,kind:=.int .i32,zero := [.val (.int .i32 0)],eqs := [] },
 some { size:=1,agg:=false,kind:=.slice 77 5 64 [.val (.string { data:={ toList := [] } }), .val (.int .i64 0), .val (.int .i64 0), .val (.int .i64 0), .nilsl],zero := [.nilsl],eqs := [] },
 some { size:=3,agg:=true,kind:=.struct [(0,1,false),(1,1,false),(2,1,false)],zero := [.val (.int .i64 0), .val (.int .i64 0), .nilsl],eqs := [] },
 some { size:=3,agg:=true,kind:=.struct [(0,1,false),(1,1,false),(2,1,false)],zero := [.val (.int .i64 0), .val (.int .i64 0), .nilsl],eqs := [] },
 some { size:=1,agg:=false,kind:=.slice 27 1 24 [.nilsl],zero := [.nilsl],eqs := [] },
 some { size:=1,agg:=false,kind:=.slice 50 9 104 [.val (.int .i64 0), .val (.int .i64 0), .val (.int .i64 0), .val (.int .i64 0), .val (.int .i64 0), .val (.int .i64 0), .val (.int .i64 0), .nilsl, .nilsl],zero := [.nilsl],eqs := [] },
 some { size:=1,agg:=false,kind:=.slice 3 1 8 [.val (.int .i64 0)],zero := [.nilsl],eqs := [] },
 some { size:=2,agg:=true,kind:=.struct [(0,1,false),(1,1,false)],zero := [.nilsl, .nilsl],eqs := [] },
 some { size:=2,agg:=true,kind:=.struct [(0,1,false),(1,1,false)],zero := [.nilsl, .nilsl],eqs := [] },
 some { size:=1,agg:=false,kind:=.slice 119 2 16 [.val (.int .i64 0), .val (.int .i64 0)],zero := [.nilsl],eqs := [] },
 some { size:=1,agg:=false,kind:=.slice 100 4 48 [.val (.int .i64 0), .val (.int .i64 0), .val (.int .i64 0), .nilsl],zero := [.nilsl],eqs := [] },
 some { size:=10,agg:=true,kind:=.struct [(0,1,false),(1,2,true),(3,1,false),(4,1,false),(5,1,false),(6,1,false),(7,1,false),(8,1,false),(9,1,false)],zero := [.val (.int .i64 0), .nilsl, .nilsl, .nilsl, .val (.int .i64 0), .val (.int .i64 0), .val (.int .i64 0), .val (.int .i64 0), .val (.int .i64 0), .nilsl],eqs := [] },
 some { size:=10,agg:=true,kind:=.struct [(0,1,false),(1,2,true),(3,1,false),(4,1,false),(5,1,false),(6,1,false),(7,1,false),(8,1,false),(9,1,false)],zero := [.val (.int .i64 0), .nilsl, .nilsl, .nilsl, .val (.int .i64 0), .val (.int .i64 0), .val (.int .i64 0), .val (.int .i64 0), .val (.int .i64 0), .nilsl],eqs := [] },
 some { size:=1,agg:=false,kind:=.func,zero := [.val .nilFunc],eqs := [] },
 some { size:=1,agg:=false,kind:=.func,zero := [.val .nilFunc],eqs := [] },
 some { size:=1,agg:=false,kind:=.func,zero := [.val .nilFunc],eqs := [] },
 some { size:=1,agg:=false,kind:=.func,zero := [.val .nilFunc],eqs := [] },
 some { size:=1,agg:=false,kind:=.int .i64,zero := [.val (.int .i64 0)],eqs := [] },
 none,
 some { size:=1,agg:=false,kind:=.func,zero := [.val .nilFunc],eqs := [] },
 some { size:=11,agg:=true,kind:=.struct [(0,10,true),(10,1,false)],zero := [.val (.int .i64 0), .nilsl, .nilsl, .nilsl, .val (.int .i64 0), .val (.int .i64 0), .val (.int .i64 0), .val (.int .i64 0), .val (.int .i64 0), .nilsl, .val (.int .i64 0)],eqs := [] },
 some { size:=11,agg:=true,kind:=.struct [(0,10,true),(10,1,false)],zero := [.val (.int .i64 0), .nilsl, .nilsl, .nilsl, .val (.int .i64 0), .val (.int .i64 0), .val (.int .i64 0), .val (.int .i64 0), .val (.int .i64 0), .nilsl, .val (.int .i64 0)],eqs := [] },
 some { size:=1,agg:=false,kind:=.func,zero := [.val .nilFunc],eqs := [] },
 some { size:=1,agg:=false,kind:=.func,zero := [.val .nilFunc],eqs := [] },
 some { size:=1,agg:=false,kind:=.func,zero := [.val .nilFunc],eqs := [] },
 some { size:=1,agg:=false,kind:=.func,zero := [.val .nilFunc],eqs := [] },
 some { size:=1,agg:=false,kind:=.func,zero := [.val .nilFunc],eqs := [] },
 some { size:=1,agg:=false,kind:=.slice 79 4 48 [.val (.string { data:={ toList := [] } }), .val (.int .i64 0), .val (.int .i64 0), .val (.string { data:={ toList := [] } })],zero := [.nilsl],eqs := [] },
 some { size:=9,agg:=true,kind:=.struct [(0,1,false),(1,1,false),(2,1,false),(3,1,false),(4,1,false),(5,1,false),(6,1,false),(7,1,false),(8,1,false)],zero := [.val (.int .i64 0), .val (.int .i64 0), .val (.int .i64 0), .val (.int .i64 0), .val (.int .i64 0), .val (.int .i64 0), .val (.int .i64 0), .nilsl, .nilsl],eqs := [] },
 some { size:=9,agg:=true,kind:=.struct [(0,1,false),(1,1,false),(2,1,false),(3,1,false),(4,1,false),(5,1,false),(6,1,false),(7,1,false),(8,1,false)],zero := [.val (.int .i64 0), .val (.int .i64 0), .val (.int .i64 0), .val (.int .i64 0), .val (.int .i64 0), .val (.int .i64 0), .val (.int .i64 0), .nilsl, .nilsl],eqs := [] },
 some { size:=1,agg:=false,kind:=.func,zero := [.val .nilFunc],eqs := [] },
 some { size:=1,agg:=false,kind:=.slice 54 6 80 [.val (.int .i64 0), .val (.string { data:={ toList := [] } }), .val (.int .i64 0), .val (.int .i64 0), .val (.string { data:={ toList := [] } }), .nilsl],zero := [.nilsl],eqs := [] },
 some { size:=6,agg:=true,kind:=.struct [(0,1,false),(1,1,false),(2,1,false),(3,1,false),(4,1,false),(5,1,false)],zero := [.val (.int .i64 0), .val (.string { data:={ toList := [] } }), .val (.int .i64 0), .val (.int .i64 0), .val (.string { data:={ toList := [] } }), .nilsl],eqs := [] },
 some { size:=6,agg:=true,kind:=.struct [(0,1,false),(1,1,false),(2,1,false),(3,1,false),(4,1,false),(5,1,false)],zero := [.val (.int .i64 0), .val (.string { data:={ toList := [] } }), .val (.int .i64 0), .val (.int .i64 0), .val (.string { data:={ toList := [] } }), .nilsl],eqs := [] },
 some { size:=2,agg:=true,kind:=.struct [(0,1,false),(1,1,false)],zero := [.val (.int .i64 0), .val (.int .i64 0)],eqs := [.int, .int] },
 some { size:=2,agg:=true,kind:=.struct [(0,1,false),(1,1,false)],zero := [.val (.int .i64 0), .val (.int .i64 0)],eqs := [.int, .int] },
 none,
 some { size:=1,agg:=false,kind:=.func,zero := [.val .nilFunc],eqs := [] },
 some { size:=2,agg:=true,kind:=.struct [(0,1,false),(1,1,false)],zero := [.val (.int .i64 0), .val (.int .i64 0)],eqs := [.int, .int] },
 some { size:=2,agg:=true,kind:=.struct [(0,1,false),(1,1,false)],zero := [.val (.int .i64 0), .val (.int .i64 0)],eqs := [.int, .int] },
 some { size:=1,agg:=false,kind:=.func,zero := [.val .nilFunc],eqs := [] },
 some { size:=1,agg:=false,kind:=.func,zero := [.val .nilFunc],eqs := [] },
 some { size:=1,agg:=false,kind:=.func,zero := [.val .nilFunc],eqs := [] },
 some { size:=1,agg:=false,kind:=.func,zero := [.val .nilFunc],eqs := [] },
 none,
 some { size:=1,agg:=false,kind:=.func,zero := [.val .nilFunc],eqs := [] },
 some { size:=2,agg:=true,kind:=.struct [(0,1,false),(1,1,false)],zero := [.val (.bool false), .val (.bool false)],eqs := [.bool, .bool] },
 some { size:=2,agg:=true,kind:=.struct [(0,1,false),(1,1,false)],zero := [.val (.bool false), .val (.bool false)],eqs := [.bool, .bool] },
 some { size:=1,agg:=false,kind:=.func,zero := [.val .nilFunc],eqs := [] },
 some { size:=1,agg:=false,kind:=.func,zero := [.val .nilFunc],eqs := [] },
 some { size:=1,agg:=false,kind:=.func,zero := [.val .nilFunc],eqs := [] },
 some { size:=1,agg:=false,kind:=.func,zero := [.val .nilFunc],eqs := [] },
 some { size:=1,agg:=false,kind:=.func,zero := [.val .nilFunc],eqs := [] },
 some { size:=1,agg:=false,kind:=.func,zero := [.val .nilFunc],eqs := [] },
 some { size:=1,agg:=false,kind:=.slice 9 1 16 [.val (.string { data:={ toList := [] } })],zero := [.nilsl],eqs := [] },
 some { size:=5,agg:=true,kind:=.struct [(0,1,false),(1,1,false),(2,1,false),(3,1,false),(4,1,false)],zero := [.val (.string { data:={ toList := [] } }), .val (.int .i64 0), .val (.int .i64 0), .val (.int .i64 0), .nilsl],eqs := [] },
 some { size:=5,agg:=true,kind:=.struct [(0,1,false),(1,1,false),(2,1,false),(3,1,false),(4,1,false)],zero := [.val (.string { data:={ toList := [] } }), .val (.int .i64 0), .val (.int .i64 0), .val (.int .i64 0), .nilsl],eqs := [] },
 some { size:=4,agg:=true,kind:=.struct [(0,1,false),(1,1,false),(2,1,false),(3,1,false)],zero := [.val (.string { data:={ toList := [] } }), .val (.int .i64 0), .val (.int .i64 0), .val (.string { data:={ toList := [] } })],eqs := [.str, .int, .int, .str] },
 some { size:=4,agg:=true,kind:=.struct [(0,1,false),(1,1,false),(2,1,false),(3,1,false)],zero := [.val (.string { data:={ toList := [] } }), .val (.int .i64 0), .val (.int .i64 0), .val (.string { data:={ toList := [] } })],eqs := [.str, .int, .int, .str] },
 none,
 some { size:=1,agg:=false,kind:=.func,zero := [.val .nilFunc],eqs := [] },
 some { size:=1,agg:=false,kind:=.func,zero := [.val .nilFunc],eqs := [] },
 some { size:=1,agg:=false,kind:=.func,zero := [.val .nilFunc],eqs := [] },
 some { size:=1,agg:=false,kind:=.func,zero := [.val .nilFunc],eqs := [] },
 some { size:=1,agg:=false,kind:=.int .u32,zero := [.val (.int .u32 0)],eqs := [] },
 some { size:=1,agg:=false,kind:=.func,zero := [.val .nilFunc],eqs := [] },
 some { size:=1,agg:=false,kind:=.func,zero := [.val .nilFunc],eqs := [] },
 some { size:=1,agg:=false,kind:=.func,zero := [.val .nilFunc],eqs := [] },
 some { size:=1,agg:=false,kind:=.func,zero := [.val .nilFunc],eqs := [] },
 some { size:=1,agg:=false,kind:=.func,zero := [.val .nilFunc],eqs := [] },
 some { size:=1,agg:=false,kind:=.func,zero := [.val .nilFunc],eqs := [] },
 some { size:=1,agg:=false,kind:=.slice 5 1 1 [.val (.int .u8 0)],zero := [.nilsl],eqs := [] },
 some { size:=1,agg:=false,kind:=.func,zero := [.val .nilFunc],eqs := [] },
 some { size:=1,agg:=false,kind:=.func,zero := [.val .nilFunc],eqs := [] },
 some { size:=1,agg:=false,kind:=.func,zero := [.val .nilFunc],eqs := [] },
 some { size:=1,agg:=false,kind:=.func,zero := [.val .nilFunc],eqs := [] },
 some { size:=1,agg:=false,kind:=.func,zero := [.val .nilFunc],eqs := [] },
 some { size:=1,agg:=false,kind:=.func,zero := [.val .nilFunc],eqs := [] },
 some { size:=4,agg:=true,kind:=.struct [(0,1,false),(1,1,false),(2,1,false),(3,1,false)],zero := [.val (.int .i64 0), .val (.int .i64 0), .val (.int .i64 0), .nilsl],eqs := [] },
 some { size:=4,agg:=true,kind:=.struct [(0,1,false),(1,1,false),(2,1,false),(3,1,false)],zero := [.val (.int .i64 0), .val (.int .i64 0), .val (.int .i64 0), .nilsl],eqs := [] },
 none,
 some { size:=1,agg:=false,kind:=.func,zero := [.val .nilFunc],eqs := [] },
 some { size:=1,agg:=false,kind:=.func,zero := [.val .nilFunc],eqs := [] },
 some { size:=1,agg:=false,kind:=.func,zero := [.val .nilFunc],eqs := [] },
 none,
 some { size:=1,agg:=false,kind:=.func,zero := [.val .nilFunc],eqs := [] },
 none,
 some { size:=1,agg:=false,kind:=.func,zero := [.val .nilFunc],eqs := [] },
 some { size:=1,agg:=false,kind:=.func,zero := [.val .nilFunc],eqs := [] },
 some { size:=1,agg:=false,kind:=.func,zero := [.val .nilFunc],eqs := [] },
 some { size:=1,agg:=false,kind:=.func,zero := [.val .nilFunc],eqs := [] },
 some { size:=1,agg:=false,kind:=.func,zero := [.val .nilFunc],eqs := [] },
 some { size:=1,agg:=false,kind:=.func,zero := [.val .nilFunc],eqs := [] },
 some { size:=1,agg:=false,kind:=.func,zero := [.val .nilFunc],eqs := [] },
 some { size:=1,agg:=false,kind:=.func,zero := [.val .nilFunc],eqs := [] },
 some { size:=1,agg:=false,kind:=.func,zero := [.val .nilFunc],eqs := [] },
 some { size:=1,agg:=false,kind:=.func,zero := [.val .nilFunc],eqs := [] },
 some { size:=2,agg:=true,kind:=.struct [(0,1,false),(1,1,false)],zero := [.val (.int .i64 0), .val (.int .i64 0)],eqs := [.int, .int] },
 some { size:=2,agg:=true,kind:=.struct [(0,1,false),(1,1,false)],zero := [.val (.int .i64 0), .val (.int .i64 0)],eqs := [.int, .int] },
 some { size:=1,agg:=false,kind:=.func,zero := [.val .nilFunc],eqs := [] },
 some { size:=1,agg:=false,kind:=.func,zero := [.val .nilFunc],eqs := [] },
 some { size:=1,agg:=false,kind:=.func,zero := [.val .nilFunc],eqs := [] },
 some { size:=1,agg:=false,kind:=.func,zero := [.val .nilFunc],eqs := [] },
 some { size:=2,agg:=true,kind:=.struct [(0,1,false),(1,1,false)],zero := [.val (.int .i64 0), .val (.int .i64 0)],eqs := [.int, .int] },
 some { size:=1,agg:=false,kind:=.func,zero := [.val .nilFunc],eqs := [] },
 some { size:=3,agg:=true,kind:=.struct [(0,1,false),(1,1,false),(2,1,false)],zero := [.val (.int .i64 0), .val (.int .i64 0), .val (.int .i64 0)],eqs := [.int, .int, .int] },
 some { size:=3,agg:=true,kind:=.struct [(0,1,false),(1,1,false),(2,1,false)],zero := [.val (.int .i64 0), .val (.int .i64 0), .val (.int .i64 0)],eqs := [.int, .int, .int] },
 some { size:=1,agg:=false,kind:=.func,zero := [.val .nilFunc],eqs := [] },
 some { size:=1,agg:=false,kind:=.func,zero := [.val .nilFunc],eqs := [] },
 some { size:=1,agg:=false,kind:=.func,zero := [.val .nilFunc],eqs := [] },
 some { size:=1,agg:=false,kind:=.func,zero := [.val .nilFunc],eqs := [] },
 some { size:=1,agg:=false,kind:=.func,zero := [.val .nilFunc],eqs := [] },
 some { size:=2,agg:=true,kind:=.struct [(0,1,false),(1,1,false)],zero := [.val (.bool false), .val (.bool false)],eqs := [.bool, .bool] },
 some { size:=2,agg:=true,kind:=.struct [(0,1,false),(1,1,false)],zero := [.val (.bool false), .val (.bool false)],eqs := [.bool, .bool] },
 some { size:=1,agg:=false,kind:=.ptr,zero := [.val (.pointer none)],eqs := [] },
 some { size:=1,agg:=false,kind:=.map 3 214,zero := [.val (.map none)],eqs := [] },
 some { size:=1,agg:=false,kind:=.func,zero := [.val .nilFunc],eqs := [] },
 some { size:=14,agg:=true,kind:=.struct [(0,3,true),(3,10,true),(13,1,false)],zero:=([.val (.int .i64 0), .val (.int .i64 0), .nilsl, .val (.int .i64 0), .nilsl, .nilsl, .nilsl, .val (.int .i64 0), .val (.int .i64 0), .val (.int .i64 0), .val (.int .i64 0), .val (.int .i64 0), .nilsl, .val (.map none)]),eqs := [] },
 some { size:=14,agg:=true,kind:=.struct [(0,3,true),(3,10,true),(13,1,false)],zero:=([.val (.int .i64 0), .val (.int .i64 0), .nilsl, .val (.int .i64 0), .nilsl, .nilsl, .nilsl, .val (.int .i64 0), .val (.int .i64 0), .val (.int .i64 0), .val (.int .i64 0), .val (.int .i64 0), .nilsl, .val (.map none)]),eqs := [] },
 some { size:=1,agg:=false,kind:=.func,zero := [.val .nilFunc],eqs := [] },
 some { size:=1,agg:=false,kind:=.func,zero := [.val .nilFunc],eqs := [] },
 some { size:=2,agg:=true,kind:=.struct [(0,1,false),(1,1,false)],zero := [.val .nilFunc, .val (.int .i64 0)],eqs := [] },
 some { size:=2,agg:=true,kind:=.struct [(0,1,false),(1,1,false)],zero := [.val .nilFunc, .val (.int .i64 0)],eqs := [] },
 some { size:=1,agg:=false,kind:=.func,zero := [.val .nilFunc],eqs := [] },
 some { size:=2,agg:=true,kind:=.struct [(0,1,false),(1,1,false)],zero := [.val (.int .i64 0), .val (.int .i64 0)],eqs := [.int, .int] },
 some { size:=2,agg:=true,kind:=.struct [(0,1,false),(1,1,false)],zero := [.val (.int .i64 0), .val (.int .i64 0)],eqs := [.int, .int] },
 some { size:=1,agg:=false,kind:=.func,zero := [.val .nilFunc],eqs := [] },
 some { size:=1,agg:=false,kind:=.func,zero := [.val .nilFunc],eqs := [] },
 some { size:=1,agg:=false,kind:=.func,zero := [.val .nilFunc],eqs := [] },
 some { size:=1,agg:=false,kind:=.func,zero := [.val .nilFunc],eqs := [] },
 some { size:=1,agg:=false,kind:=.func,zero := [.val .nilFunc],eqs := [] },
 some { size:=1,agg:=false,kind:=.func,zero := [.val .nilFunc],eqs := [] },
 some { size:=1,agg:=false,kind:=.func,zero := [.val .nilFunc],eqs := [] },
 some { size:=1,agg:=false,kind:=.func,zero := [.val .nilFunc],eqs := [] },
 some { size:=1,agg:=false,kind:=.func,zero := [.val .nilFunc],eqs := [] },
 some { size:=8,agg:=true,kind:=.arr 2 100 4 true,zero := [.val (.int .i64 0), .val (.int .i64 0), .val (.int .i64 0), .nilsl, .val (.int .i64 0), .val (.int .i64 0), .val (.int .i64 0), .nilsl],eqs := [] },
 some { size:=1,agg:=false,kind:=.func,zero := [.val .nilFunc],eqs := [] },
 some { size:=1,agg:=false,kind:=.func,zero := [.val .nilFunc],eqs := [] },
 some { size:=1,agg:=false,kind:=.func,zero := [.val .nilFunc],eqs := [] },
 some { size:=1,agg:=false,kind:=.func,zero := [.val .nilFunc],eqs := [] },
 some { size:=1,agg:=false,kind:=.func,zero := [.val .nilFunc],eqs := [] },
 some { size:=1,agg:=false,kind:=.func,zero := [.val .nilFunc],eqs := [] },
 some { size:=1,agg:=false,kind:=.func,zero := [.val .nilFunc],eqs := [] },
 some { size:=1,agg:=false,kind:=.map 9 4,zero := [.val (.map none)],eqs := [] },
 some { size:=1,agg:=false,kind:=.func,zero := [.val .nilFunc],eqs := [] },
 some { size:=1,agg:=false,kind:=.func,zero := [.val .nilFunc],eqs := [] },
 some { size:=4,agg:=true,kind:=.struct [(0,2,true),(2,1,false),(3,1,false)],zero := [.nilsl, .nilsl, .val (.bool false), .val (.int .i64 0)],eqs := [] },
 some { size:=4,agg:=true,kind:=.struct [(0,2,true),(2,1,false),(3,1,false)],zero := [.nilsl, .nilsl, .val (.bool false), .val (.int .i64 0)],eqs := [] },
 some { size:=1,agg:=false,kind:=.func,zero := [.val .nilFunc],eqs := [] },
 some { size:=2,agg:=true,kind:=.struct [(0,1,false),(1,1,false)],zero := [.nilsl, .val (.int .i64 0)],eqs := [] },
 some { size:=2,agg:=true,kind:=.struct [(0,1,false),(1,1,false)],zero := [.nilsl, .val (.int .i64 0)],eqs := [] },
 some { size:=1,agg:=false,kind:=.func,zero := [.val .nilFunc],eqs := [] },
 some { size:=1,agg:=false,kind:=.func,zero := [.val .nilFunc],eqs := [] },
 some { size:=1,agg:=false,kind:=.func,zero := [.val .nilFunc],eqs := [] },
 some { size:=1,agg:=false,kind:=.func,zero := [.val .nilFunc],eqs := [] },
 none,
 some { size:=1,agg:=false,kind:=.func,zero := [.val .nilFunc],eqs := [] },
 none,
 some { size:=1,agg:=false,kind:=.func,zero := [.val .nilFunc],eqs := [] },
 some { size:=1,agg:=false,kind:=.ptr,zero := [.val (.pointer none)],eqs := [] },
 some { size:=3,agg:=true,kind:=.struct [(0,1,false),(1,1,false),(2,1,false)],zero := [.nilsl, .nilsl, .val (.bool false)],eqs := [] },
 some { size:=3,agg:=true,kind:=.struct [(0,1,false),(1,1,false),(2,1,false)],zero := [.nilsl, .nilsl, .val (.bool false)],eqs := [] },
 some { size:=1,agg:=false,kind:=.func,zero := [.val .nilFunc],eqs := [] },
 some { size:=1,agg:=false,kind:=.func,zero := [.val .nilFunc],eqs := [] },
 some { size:=1,agg:=false,kind:=.func,zero := [.val .nilFunc],eqs := [] },
 some { size:=1,agg:=false,kind:=.func,zero := [.val .nilFunc],eqs := [] },
 some { size:=1,agg:=false,kind:=.func,zero := [.val .nilFunc],eqs := [] },
 some { size:=1,agg:=false,kind:=.func,zero := [.val .nilFunc],eqs := [] },
 some { size:=1,agg:=false,kind:=.func,zero := [.val .nilFunc],eqs := [] },
 some { size:=1,agg:=false,kind:=.func,zero := [.val .nilFunc],eqs := [] },
 some { size:=1,agg:=false,kind:=.func,zero := [.val .nilFunc],eqs := [] },
 some { size:=1,agg:=false,kind:=.func,zero := [.val .nilFunc],eqs := [] },
 none,
 some { size:=1,agg:=false,kind:=.func,zero := [.val .nilFunc],eqs := [] },
 some { size:=1,agg:=false,kind:=.func,zero := [.val .nilFunc],eqs := [] },
 some { size:=5,agg:=true,kind:=.struct [(0,4,true),(4,1,false)],zero := [.val (.string { data:={ toList := [] } }), .val (.int .i64 0), .val (.int .i64 0), .val (.string { data:={ toList := [] } }), .val (.bool false)],eqs := [.str, .int, .int, .str, .bool] },
 some { size:=5,agg:=true,kind:=.struct [(0,4,true),(4,1,false)],zero := [.val (.string { data:={ toList := [] } }), .val (.int .i64 0), .val (.int .i64 0), .val (.string { data:={ toList := [] } }), .val (.bool false)],eqs := [.str, .int, .int, .str, .bool] },
 some { size:=1,agg:=false,kind:=.func,zero := [.val .nilFunc],eqs := [] },
 some { size:=1,agg:=false,kind:=.func,zero := [.val .nilFunc],eqs := [] },
 some { size:=1,agg:=false,kind:=.func,zero := [.val .nilFunc],eqs := [] },
 some { size:=1,agg:=false,kind:=.func,zero := [.val .nilFunc],eqs := [] },
 some { size:=1,agg:=false,kind:=.func,zero := [.val .nilFunc],eqs := [] },
 some { size:=1,agg:=false,kind:=.func,zero := [.val .nilFunc],eqs := [] },
 some { size:=1,agg:=false,kind:=.func,zero := [.val .nilFunc],eqs := [] },
 some { size:=1,agg:=false,kind:=.func,zero := [.val .nilFunc],eqs := [] },
 some { size:=1,agg:=false,kind:=.func,zero := [.val .nilFunc],eqs := [] },
 some { size:=1,agg:=false,kind:=.func,zero := [.val .nilFunc],eqs := [] },
 some { size:=1,agg:=false,kind:=.func,zero := [.val .nilFunc],eqs := [] },
 some { size:=1,agg:=false,kind:=.func,zero := [.val .nilFunc],eqs := [] },
 some { size:=1,agg:=false,kind:=.func,zero := [.val .nilFunc],eqs := [] },
 some { size:=1,agg:=false,kind:=.func,zero := [.val .nilFunc],eqs := [] },
 some { size:=1,agg:=false,kind:=.func,zero := [.val .nilFunc],eqs := [] },
 some { size:=1,agg:=false,kind:=.func,zero := [.val .nilFunc],eqs := [] },
 some { size:=1,agg:=false,kind:=.func,zero := [.val .nilFunc],eqs := [] },
 some { size:=1,agg:=false,kind:=.slice 134 2 2 [.val (.bool false), .val (.bool false)],zero := [.nilsl],eqs := [] },
 some { size:=1,agg:=false,kind:=.func,zero := [.val .nilFunc],eqs := [] },
 some { size:=1,agg:=false,kind:=.func,zero := [.val .nilFunc],eqs := [] },
 some { size:=1,agg:=false,kind:=.func,zero := [.val .nilFunc],eqs := [] },
 some { size:=1,agg:=false,kind:=.slice 143 2 16 [.val .nilFunc, .val (.int .i64 0)],zero := [.nilsl],eqs := [] },
 some { size:=1,agg:=false,kind:=.func,zero := [.val .nilFunc],eqs := [] },
 some { size:=1,agg:=false,kind:=.func,zero := [.val .nilFunc],eqs := [] },
 some { size:=1,agg:=false,kind:=.func,zero := [.val .nilFunc],eqs := [] },
 some { size:=1,agg:=false,kind:=.func,zero := [.val .nilFunc],eqs := [] },
 some { size:=1,agg:=false,kind:=.func,zero := [.val .nilFunc],eqs := [] },
 some { size:=1,agg:=false,kind:=.map 3 192,zero := [.val (.map none)],eqs := [] },
 some { size:=1,agg:=false,kind:=.func,zero := [.val .nilFunc],eqs := [] },
 some { size:=1,agg:=false,kind:=.slice 79 4 48 [.val (.string { data:={ toList := [] } }), .val (.int .i64 0), .val (.int .i64 0), .val (.string { data:={ toList := [] } })],zero := [.nilsl],eqs := [] },
 some { size:=1,agg:=false,kind:=.slice 75 1 24 [.nilsl],zero := [.nilsl],eqs := [] },
 some { size:=1,agg:=false,kind:=.func,zero := [.val .nilFunc],eqs := [] },
 some { size:=1,agg:=false,kind:=.func,zero := [.val .nilFunc],eqs := [] },
 some { size:=1,agg:=false,kind:=.func,zero := [.val .nilFunc],eqs := [] },
 some { size:=1,agg:=false,kind:=.func,zero := [.val .nilFunc],eqs := [] },
 some { size:=1,agg:=false,kind:=.func,zero := [.val .nilFunc],eqs := [] },
 some { size:=1,agg:=false,kind:=.func,zero := [.val .nilFunc],eqs := [] },
 some { size:=1,agg:=false,kind:=.func,zero := [.val .nilFunc],eqs := [] },
 some { size:=1,agg:=false,kind:=.func,zero := [.val .nilFunc],eqs := [] },
 some { size:=1,agg:=false,kind:=.func,zero := [.val .nilFunc],eqs := [] },
 some { size:=1,agg:=false,kind:=.func,zero := [.val .nilFunc],eqs := [] },
 some { size:=1,agg:=false,kind:=.func,zero := [.val .nilFunc],eqs := [] },
 some { size:=1,agg:=false,kind:=.func,zero := [.val .nilFunc],eqs := [] },
 some { size:=1,agg:=false,kind:=.func,zero := [.val .nilFunc],eqs := [] },
 some { size:=1,agg:=false,kind:=.func,zero := [.val .nilFunc],eqs := [] },
 some { size:=1,agg:=false,kind:=.func,zero := [.val .nilFunc],eqs := [] },
 none,
 some { size:=1,agg:=false,kind:=.func,zero := [.val .nilFunc],eqs := [] },
 none,
 none,
 some { size:=1,agg:=false,kind:=.func,zero := [.val .nilFunc],eqs := [] },
 some { size:=1,agg:=false,kind:=.func,zero := [.val .nilFunc],eqs := [] },
 some { size:=1,agg:=false,kind:=.func,zero := [.val .nilFunc],eqs := [] },
 some { size:=1,agg:=false,kind:=.func,zero := [.val .nilFunc],eqs := [] },
 some { size:=1,agg:=false,kind:=.func,zero := [.val .nilFunc],eqs := [] },
 some { size:=1,agg:=false,kind:=.func,zero := [.val .nilFunc],eqs := [] },
 some { size:=1,agg:=false,kind:=.func,zero := [.val .nilFunc],eqs := [] },
 none,
 some { size:=1,agg:=false,kind:=.func,zero := [.val .nilFunc],eqs := [] },
 some { size:=1,agg:=false,kind:=.func,zero := [.val .nilFunc],eqs := [] },
 none,
 some { size:=1,agg:=false,kind:=.map 3 131,zero := [.val (.map none)],eqs := [] },
 some { size:=1,agg:=false,kind:=.func,zero := [.val .nilFunc],eqs := [] },
 some { size:=1,agg:=false,kind:=.int .u64,zero := [.val (.int .u64 0)],eqs := [] },
 some { size:=1,agg:=false,kind:=.int .u64,zero := [.val (.int .u64 0)],eqs := [] },
 some { size:=1,agg:=false,kind:=.func,zero := [.val .nilFunc],eqs := [] },
 some { size:=1,agg:=false,kind:=.func,zero := [.val .nilFunc],eqs := [] },
 some { size:=1,agg:=false,kind:=.func,zero := [.val .nilFunc],eqs := [] },
 some { size:=2,agg:=true,kind:=.struct [(0,1,false),(1,1,false)],zero := [.val .nilFunc, .val .nilFunc],eqs := [] },
 some { size:=2,agg:=true,kind:=.struct [(0,1,false),(1,1,false)],zero := [.val .nilFunc, .val .nilFunc],eqs := [] },
 some { size:=1,agg:=false,kind:=.func,zero := [.val .nilFunc],eqs := [] },
 some { size:=1,agg:=false,kind:=.func,zero := [.val .nilFunc],eqs := [] },
 some { size:=1,agg:=false,kind:=.func,zero := [.val .nilFunc],eqs := [] },
 some { size:=1,agg:=false,kind:=.func,zero := [.val .nilFunc],eqs := [] },
 some { size:=1,agg:=false,kind:=.func,zero := [.val .nilFunc],eqs := [] },
 some { size:=1,agg:=false,kind:=.func,zero := [.val .nilFunc],eqs := [] },
 some { size:=1,agg:=false,kind:=.func,zero := [.val .nilFunc],eqs := [] },
 some { size:=1,agg:=false,kind:=.func,zero := [.val .nilFunc],eqs := [] },
 some { size:=1,agg:=false,kind:=.func,zero := [.val .nilFunc],eqs := [] },
 some { size:=1,agg:=false,kind:=.int .i64,zero := [.val (.int .i64 0)],eqs := [] },
 none,
 some { size:=1,agg:=false,kind:=.func,zero := [.val .nilFunc],eqs := [] },
 some { size:=1,agg:=false,kind:=.func,zero := [.val .nilFunc],eqs := [] },
 some { size:=1,agg:=false,kind:=.func,zero := [.val .nilFunc],eqs := [] },
 some { size:=1,agg:=false,kind:=.func,zero := [.val .nilFunc],eqs := [] },
 some { size:=1,agg:=false,kind:=.func,zero := [.val .nilFunc],eqs := [] },
 some { size:=1,agg:=false,kind:=.func,zero := [.val .nilFunc],eqs := [] },
 some { size:=1,agg:=false,kind:=.func,zero := [.val .nilFunc],eqs := [] },
 some { size:=1,agg:=false,kind:=.func,zero := [.val .nilFunc],eqs := [] },
 some { size:=1,agg:=false,kind:=.int .u64,zero := [.val (.int .u64 0)],eqs := [] },
 some { size:=1,agg:=false,kind:=.func,zero := [.val .nilFunc],eqs := [] },
 some { size:=1,agg:=false,kind:=.func,zero := [.val .nilFunc],eqs := [] },
 some { size:=1,agg:=false,kind:=.func,zero := [.val .nilFunc],eqs := [] },
 some { size:=1,agg:=false,kind:=.ptr,zero := [.val (.pointer none)],eqs := [] },
 some { size:=1,agg:=false,kind:=.func,zero := [.val .nilFunc],eqs := [] },
 some { size:=1,agg:=false,kind:=.ptr,zero := [.val (.pointer none)],eqs := [] },
 none,
 some { size:=1,agg:=false,kind:=.func,zero := [.val .nilFunc],eqs := [] },
 some { size:=1,agg:=false,kind:=.func,zero := [.val .nilFunc],eqs := [] },
 some { size:=4,agg:=true,kind:=.struct [(0,1,false),(1,1,false),(2,1,false),(3,1,false)],zero := [.val (.pointer none), .val (.pointer none), .val (.pointer none), .val (.string { data:={ toList := [] } })],eqs := [] },
 some { size:=4,agg:=true,kind:=.struct [(0,1,false),(1,1,false),(2,1,false),(3,1,false)],zero := [.val (.pointer none), .val (.pointer none), .val (.pointer none), .val (.string { data:={ toList := [] } })],eqs := [] },
 some { size:=0,agg:=true,kind:=.arr 0 16 1 false,zero := [],eqs := [] },
 some { size:=0,agg:=true,kind:=.struct [(0,0,true)],zero := [],eqs := [] },
 some { size:=0,agg:=true,kind:=.struct [(0,0,true)],zero := [],eqs := [] },
 some { size:=1,agg:=false,kind:=.int .u8,zero := [.val (.int .u8 0)],eqs := [] },
 some { size:=1,agg:=false,kind:=.int .u8,zero := [.val (.int .u8 0)],eqs := [] },
 some { size:=1,agg:=false,kind:=.func,zero := [.val .nilFunc],eqs := [] },
 some { size:=1,agg:=false,kind:=.ptr,zero := [.val (.pointer none)],eqs := [] },
 some { size:=1,agg:=false,kind:=.int .i32,zero := [.val (.int .i32 0)],eqs := [] },
 some { size:=1,agg:=false,kind:=.int .i32,zero := [.val (.int .i32 0)],eqs := [] },
 some { size:=11,agg:=true,kind:=.struct [(0,1,false),(1,1,false),(2,1,false),(3,1,false),(4,1,false),(5,1,false),(6,1,false),(7,1,false),(8,1,false),(9,1,false),(10,1,false)],zero := [.val (.int .u64 0), .val (.int .u64 0), .val (.int .u32 0), .val (.int .u8 0), .val (.int .u8 0), .val (.int .u8 0), .val (.int .u8 0), .val .nilFunc, .val (.pointer none), .val (.int .i32 0), .val (.int .i32 0)],eqs := [] },
 some { size:=11,agg:=true,kind:=.struct [(0,1,false),(1,1,false),(2,1,false),(3,1,false),(4,1,false),(5,1,false),(6,1,false),(7,1,false),(8,1,false),(9,1,false),(10,1,false)],zero := [.val (.int .u64 0), .val (.int .u64 0), .val (.int .u32 0), .val (.int .u8 0), .val (.int .u8 0), .val (.int .u8 0), .val (.int .u8 0), .val .nilFunc, .val (.pointer none), .val (.int .i32 0), .val (.int .i32 0)],eqs := [] },
 some { size:=1,agg:=false,kind:=.other,zero := [.val (.pointer none)],eqs := [] }]
theorem typeTab_ok:typeTab=tabOf Tryz.prog:=by kernel_rfl
end Go.Proofs.YtoamkpgaaanafaaGreat

/- Pure walks: a result told weaker than it is. -/
namespace Go.Proofs.YtoamkpgaaanafaaGreat
set_option linter.unusedSimpArgs false
set_option linter.unusedVariables false
set_option linter.unnecessarySimpa false
open Go.RowKit
theorem PCalls.weak {P:Program} {f:FuncId} {args:List PV} {q:PV} (h:PCalls P f args (fun r=>Weak r q)):PCalls P f args (· = q):=by
 refine ⟨h.1,fun Φ μ w vs h1 hgl h2=>(h.2 Φ μ w vs h1 hgl h2).mono ?_⟩
 rintro e w' ⟨r,v,Φ',k1,k2,k3,k4,k5,k6,k7⟩
 refine ⟨q,v,Φ',k1,rfl,k2.1 _ _ _ k3,k4,k5,k6,fun n k cs E e=>?_⟩
 have:=k2.2 (by rw [e];rfl)
 exact k7 n k cs E (by rw [←this,e])
section
variable {P:Program} {T:Tab} {σ:PS} {o:Oper} {i base:Nat} {ops:Array Oper} {ok:Nat→Nat→Bool} {rest:List (Nat×Oper)} {K:PS→Prop}
end
end Go.Proofs.YtoamkpgaaanafaaGreat

/- Pure states: steps at lists of values, tests that are not decided. -/
namespace Go.Proofs.YtoamkpgaaanafaaGreat
set_option linter.unusedSimpArgs false
set_option linter.unusedVariables false
set_option linter.unnecessarySimpa false
open Go.RowKit
section
variable {P:Program} {T:Tab} {σ:PS} {o:Oper} {i base:Nat} {ops:Array Oper} {ok:Nat→Nat→Bool} {rest:List (Nat×Oper)} {K:PS→Prop}
theorem PWops.boolS {d:Nat} {b:Bool} (hk:isCmp o.op=true) (hg:pguard ops σ o=some true) (hd:o.dst=some d) (hE:feff (presE T (headB ops o.dst) (base+i) (σ.only (ok i)) o.op)=some (.val (.bool b))) (hb:σ.freeB (base+i)=true)
  (kt:b=true→PWops P T ops base ok rest K (σ.put d (.val (.bool true)))) (kf:b=false→PWops P T ops base ok rest K (σ.put d (.val (.bool false)))):PWops P T ops base ok ((i,o) :: rest) K σ:=by
 cases b with
 |true=>exact PWops.bool true hg hd hE rfl hb (kt rfl)
 |false=>exact PWops.bool false hg hd hE rfl hb (kf rfl)
theorem PWops.mvC {d:Nat} {x:Operand} {p:PV} (hop:o.op = .move x) (hg:pguard ops σ o=some true) (hd:o.dst=some d) (hx' : ownPV σ x=p) (hn:p.ownB=false) (hb:σ.freeB (base+i)=true) (k:PWops P T ops base ok rest K (σ.put d p)):PWops P T ops base ok ((i,o) :: rest) K σ:=by
 refine PWops.valEq hg hd (p:=p) ?_ rfl hb k
 have hp:pev σ x=p:=by
  cases x with
  |tmp s=>simp only [ownPV] at hx'; simp only [pev,hx'];exact PV.bare_of _ hn
  |_=>exact hx'
 simp only [hop,presE]
 split
 ·cases x with
  |tmp s=>
   simp only [ownPV] at hx'
   have:(σ.only (ok i)).t s=p:=hx'
   simp only [takeE,this,hn]
   simp only [Bool.false_eq_true,if_false,PV.bare_of _ hn]
  |_=>simp only [takeE,pev_only,hp]
 ·simp only [pev_only,hp]
theorem PWops.ldV {d id off:Nat} {x:Operand} {t:TypeId} {ti:TyI} {bs:List PV} {c p:PV} (hop:o.op = .load t x) (hg:pguard ops σ o=some true) (hd:o.dst=some d) (hx:pev σ x = .ptr id off) (hbs:(σ.only (ok i)).b id=some bs) (hc:bs[off]? = some c) (ht:T.at t=some ti) (ha:ti.agg=false) (hq:fval c=some p) (hn:p.ownB=false) (hb:σ.freeB (base+i)=true) (k:PWops P T ops base ok rest K (σ.put d p)):PWops P T ops base ok ((i,o) :: rest) K σ:=by
 have hq':=fval_eq hq
 subst hq'
 refine PWops.valEq hg hd (p:=c) ?_ rfl hb k
 have h1:ploadO T (headB ops o.dst) (σ.only (ok i)).b t (.ptr id off)=none:=by
  simp only [ploadO]
  split
  ·rw [hbs]
   simp only [hc]
   cases c with
   |sl n k cs own=>cases own with
    |none=>rfl
    |some E=>simp [PV.ownB] at hn
   |_=>rfl
  ·rfl
 simp only [hop,presE,pev_only,hx,h1,pvalA,pval,ht,ploadAt,hbs,asVal,ha,hc,Bool.false_eq_true,if_false,Option.map_some,PV.bare_of _ hn]
theorem getD_get {α:Type} {l:List α} {j:Nat} (x:α) (h:j < l.length):l[j]? = some (l.getD j x):=by
 rw [List.getD_eq_getElem?_getD,List.getElem?_eq_getElem h];rfl
theorem PWops.idxZ {d n k e by_:Nat} {z:Int} {cs zr:List PV} {own:Option TypeId} {kk:IntKind} {x ix:Operand} {t:TypeId} {ti:TyI} (hg:pguard ops σ o=some true) (hd:o.dst=some d) (hop:o.op = .indexAddr t x ix) (hx:pev σ x = .sl n k cs own) (hi:pev σ ix = .val (.int kk z)) (ht:T.at t=some ti) (hk:ti.kind = .slice e k by_ zr) (hb:σ.freeB (base+i)=true) (h0:0≤z∧z < n)
  (kn:PWops P T ops base ok rest K (σ.put d (.ep cs (z.toNat * k)))):PWops P T ops base ok ((i,o) :: rest) K σ:=
 PWops.idx (j:=z.toNat) hg hd hop hx (by rw [hi,Int.toNat_of_nonneg h0.1]) ht hk hb (by omega) kn
theorem PWops.idxZ1 {d n e by_:Nat} {z:Int} {cs zr:List PV} {own:Option TypeId} {kk:IntKind} {x ix:Operand} {t:TypeId} {ti:TyI} (hg:pguard ops σ o=some true) (hd:o.dst=some d) (hop:o.op = .indexAddr t x ix) (hx:pev σ x = .sl n 1 cs own) (hi:pev σ ix = .val (.int kk z)) (ht:T.at t=some ti) (hk:ti.kind = .slice e 1 by_ zr) (hb:σ.freeB (base+i)=true) (h0:0≤z∧z < n)
  (kn:PWops P T ops base ok rest K (σ.put d (.ep cs z.toNat))):PWops P T ops base ok ((i,o) :: rest) K σ:=
 PWops.idx1 (j:=z.toNat) hg hd hop hx (by rw [hi,Int.toNat_of_nonneg h0.1]) ht hk hb (by omega) kn
theorem PWops.ldM {α:Type} [Inhabited α] {d off:Nat} {f:α→PV} {l:List α} {q:PV} {x:Operand} {t:TypeId} {ti:TyI} (hg:pguard ops σ o=some true) (hd:o.dst=some d) (hop:o.op = .load t x) (hx:pev σ x = .ep (l.map f) off) (ht:T.at t=some ti) (ha:ti.agg=false) (hb:σ.freeB (base+i)=true) (hl:off < l.length) (hq:fval (f (l.getD off default)).bare=some q)
  (kn:PWops P T ops base ok rest K (σ.put d q)):PWops P T ops base ok ((i,o) :: rest) K σ:=
 PWops.ld hg hd hop hx ht ha hb (map_get (getD_get default hl)) hq kn
theorem PWops.ldR {α:Type} [Inhabited α] {d j k r:Nat} {f:α→List PV} {l:List α} {c q:PV} {x:Operand} {t:TypeId} {ti:TyI} (hg:pguard ops σ o=some true) (hd:o.dst=some d) (hop:o.op = .load t x) (hx:pev σ x = .ep (l.flatMap f) (j * k+r)) (ht:T.at t=some ti) (ha:ti.agg=false) (hb:σ.freeB (base+i)=true) (hk:∀x,(f x).length=k) (hl:j < l.length) (hc:(f (l.getD j default))[r]? = some c) (hq:fval c.bare=some q)
  (kn:PWops P T ops base ok rest K (σ.put d q)):PWops P T ops base ok ((i,o) :: rest) K σ:=
 PWops.ld hg hd hop hx ht ha hb (flatMap_get hk (getD_get default hl) hc) hq kn
theorem PWops.ldRA {α:Type} [Inhabited α] {d j k:Nat} {f:α→List PV} {l:List α} {row:List PV} {x:Operand} {t:TypeId} {kd:TD} {zr:List PV} {es:List SK} (hg:pguard ops σ o=some true) (hd:o.dst=some d) (hop:o.op = .load t x) (hx:pev σ x = .ep (l.flatMap f) (j * k)) (ht:T.at t=some ⟨k,true,kd,zr,es⟩) (hb:σ.freeB (base+i)=true) (hk:∀x,(f x).length=k) (hl:j < l.length) (hr:flist ((f (l.getD j default)).map PV.bare)=some row)
  (kn:PWops P T ops base ok rest K (σ.put d (.agg row))):PWops P T ops base ok ((i,o) :: rest) K σ:=by
 refine PWops.ldA hg hd hop hx ht hb ?_ ?_ kn
 ·rw [flatMap_len hk]
  have:=Nat.mul_le_mul_right k (show j+1≤l.length from hl)
  rw [Nat.succ_mul] at this;exact this
 ·rw [flatMap_row hk (getD_get default hl)];exact flist_eq hr
theorem PWops.slcM {α:Type} {d e by_ n:Nat} {zl zh:Int} {kl kh:IntKind} {f:α→PV} {L:List α} {zr:List PV} {own:Option TypeId} {x lo hi:Operand} {t:TypeId} {ti:TyI} (hg:pguard ops σ o=some true) (hd:o.dst=some d) (hop:o.op = .slice t x (some lo) (some hi) none) (hx:pev σ x = .sl n 1 (L.map f) own) (hlo:pev σ lo = .val (.int kl zl)) (hhi:pev σ hi = .val (.int kh zh)) (ht:T.at t=some ti) (hk:ti.kind = .slice e 1 by_ zr) (hb:σ.freeB (base+i)=true)
  (h1:0≤zl∧zl≤zh∧zh≤n∧n=L.length) (kn:PWops P T ops base ok rest K (σ.put d (.sl ((L.drop zl.toNat).take (zh.toNat - zl.toNat)).length 1 (((L.drop zl.toNat).take (zh.toNat - zl.toNat)).map f) none))):PWops P T ops base ok ((i,o) :: rest) K σ:=by
 refine PWops.slc zl.toNat zh.toNat hg hd hop hx ht hk hb ?_ ?_ ?_
 ·simp only [Option.map_some,hhi,pbound];rw [if_pos ⟨by omega,h1.2.2.1⟩]
 ·simp only [Option.map_some,hlo,pbound];rw [if_pos ⟨h1.1,by omega⟩]
 ·have:PV.sl (zh.toNat - zl.toNat) 1 (((L.map f).drop (zl.toNat * 1)).take ((zh.toNat - zl.toNat) * 1)) none = .sl ((L.drop zl.toNat).take (zh.toNat - zl.toNat)).length 1 (((L.drop zl.toNat).take (zh.toNat - zl.toNat)).map f) none:=
   sl_eq (by rw [List.length_take,List.length_drop];omega) (by rw [Nat.mul_one,Nat.mul_one,List.map_take,List.map_drop])
  rw [this];exact kn
theorem PWops.slcL {α:Type} {d e by_ n:Nat} {zl:Int} {kl:IntKind} {f:α→PV} {L:List α} {zr:List PV} {own:Option TypeId} {x lo:Operand} {t:TypeId} {ti:TyI} (hg:pguard ops σ o=some true) (hd:o.dst=some d) (hop:o.op = .slice t x (some lo) none none) (hx:pev σ x = .sl n 1 (L.map f) own) (hlo:pev σ lo = .val (.int kl zl)) (ht:T.at t=some ti) (hk:ti.kind = .slice e 1 by_ zr) (hb:σ.freeB (base+i)=true)
  (h1:0≤zl∧zl≤n∧n=L.length) (kn:PWops P T ops base ok rest K (σ.put d (.sl (L.drop zl.toNat).length 1 ((L.drop zl.toNat).map f) none))):PWops P T ops base ok ((i,o) :: rest) K σ:=by
 refine PWops.slc zl.toNat n hg hd hop hx ht hk hb rfl ?_ ?_
 ·simp only [Option.map_some,hlo,pbound];rw [if_pos ⟨h1.1,by omega⟩]
 ·have:PV.sl (n - zl.toNat) 1 (((L.map f).drop (zl.toNat * 1)).take ((n - zl.toNat) * 1)) none = .sl (L.drop zl.toNat).length 1 ((L.drop zl.toNat).map f) none:=
   sl_eq (by rw [List.length_drop];omega) (by rw [Nat.mul_one,Nat.mul_one,List.take_of_length_le (by rw [List.length_drop,List.length_map];omega),List.map_drop])
  rw [this];exact kn
theorem PWops.slcH {α:Type} {d e by_ n:Nat} {zh:Int} {kh:IntKind} {f:α→PV} {L:List α} {zr:List PV} {own:Option TypeId} {x hi:Operand} {t:TypeId} {ti:TyI} (hg:pguard ops σ o=some true) (hd:o.dst=some d) (hop:o.op = .slice t x none (some hi) none) (hx:pev σ x = .sl n 1 (L.map f) own) (hhi:pev σ hi = .val (.int kh zh)) (ht:T.at t=some ti) (hk:ti.kind = .slice e 1 by_ zr) (hb:σ.freeB (base+i)=true)
  (h1:0≤zh∧zh≤n∧n=L.length) (kn:PWops P T ops base ok rest K (σ.put d (.sl (L.take zh.toNat).length 1 ((L.take zh.toNat).map f) none))):PWops P T ops base ok ((i,o) :: rest) K σ:=by
 refine PWops.slc 0 zh.toNat hg hd hop hx ht hk hb ?_ rfl ?_
 ·simp only [Option.map_some,hhi,pbound];rw [if_pos ⟨h1.1,h1.2.1⟩]
 ·have:PV.sl (zh.toNat - 0) 1 (((L.map f).drop (0 * 1)).take ((zh.toNat - 0) * 1)) none = .sl (L.take zh.toNat).length 1 ((L.take zh.toNat).map f) none:=
   sl_eq (by rw [List.length_take];omega) (by rw [Nat.mul_one,Nat.zero_mul,List.drop_zero,Nat.sub_zero,List.map_take])
  rw [this];exact kn
end
instance:Inhabited ByteArray:=⟨ByteArray.empty⟩
end Go.Proofs.YtoamkpgaaanafaaGreat

/- Pure states: whole operations in one step, whole regions in one step. -/
namespace Go.Proofs.YtoamkpgaaanafaaGreat
set_option linter.unusedSimpArgs false
set_option linter.unusedVariables false
set_option linter.unnecessarySimpa false
open Go.RowKit
def isStop:Op→Bool
 | .binOp op _ _ _ _=>match op with
  | .eql | .neq | .lss | .leq | .gtr | .geq | .add | .sub | .mul | .quo | .rem=>true
  |_=>false
 | .indexAddr .. => true
 | .slice .. => true
 | .call c=>match c.callee with
  | .builtin .len | .builtin .max | .builtin .min=>false
  |_=>true
 |_=>false
def applyE (σ:PS):Option Nat→Option Eff→Option PS
 |some d,some ⟨v,[],none,[]⟩=>match v with
  | .sl n k cs (some e)=>match flist cs with
   |some l=>some (σ.put d (.sl n k l (some e)))
   |none=>none
  |v=>match fval v with
   |some p=>some (σ.put d p)
   |none=>none
 |some d,some ⟨v,[],some s,[]⟩=>match fval v,fval (σ.t s).bare with
  |some p,some q=>some ((σ.put s q).put d p)
  |_,_=>none
 |some d,some ⟨v,[(id,cs)],none,[]⟩=>match fval v,flist cs with
  |some p,some l=>some ((σ.setb id l).put d p)
  |_,_=>none
 |none,some ⟨_,[(id,cs)],none,[]⟩=>match flist cs with
  |some l=>some (σ.setb id l)
  |none=>none
 |none,some ⟨_,[(id,cs)],some s,[]⟩=>match flist cs,fval (σ.t s).bare with
  |some l,some q=>some ((σ.put s q).setb id l)
  |_,_=>none
 |_,_=>none
def quick (T:Tab) (σ:PS) (ok:Nat→Bool):Op→Option PV
 | .move x=>match fcell (ownPV σ x) with
  |some p=>if p.ownB then none else some p
  |none=>none
 | .extract x i=>match pev σ x with
  | .tup vs=>match vs[i]? with
   |some c=>match fcell c with
    |some p=>if p.ownB then none else some p
    |none=>none
   |none=>none
  |_=>none
 | .load t x=>match pev σ x with
  | .ptr id off=>match ok id,σ.b id,T.at t with
   |true,some bs,some ti=>if ti.agg then none else match bs[off]? with
    |some c=>match fval c with
     |some p=>if p.ownB then none else some p
     |none=>none
    |none=>none
   |_,_,_=>none
  |_=>none
 |_=>none
noncomputable def stepF (T:Tab) (ops:Array Oper) (base:Nat) (ok:Nat→Nat→Bool) (i:Nat) (o:Oper) (σ:PS):Option PS:=
 match pguard ops σ o with
 |some false=>match o.dst with
  |some d=>some (σ.put d (.tup []))
  |none=>none
 |some true=>
  if isStop o.op then none
  else match σ.freeB (base+i) with
   |false=>none
   |true=>match o.dst,quick T σ (ok i) o.op with
    |some d,some p=>some (σ.put d p)
    |_,_=>applyE σ o.dst (presE T (headB ops o.dst) (base+i) (σ.only (ok i)) o.op)
 |none=>none
theorem flatMap_drop {α:Type} {f:α→List PV} {k:Nat} (hk:∀x,(f x).length=k):∀(l:List α) (j:Nat),(l.flatMap f).drop (j * k)=(l.drop j).flatMap f
 |l,0=>by simp
 | [],j+1=>by simp
 |y :: l,j+1=>by
  rw [List.flatMap_cons,List.drop_succ_cons,←flatMap_drop hk l j,Nat.succ_mul,Nat.add_comm,←List.drop_drop,List.drop_left' (hk y)]
theorem flatMap_take {α:Type} {f:α→List PV} {k:Nat} (hk:∀x,(f x).length=k):∀(l:List α) (j:Nat),(l.flatMap f).take (j * k)=(l.take j).flatMap f
 |l,0=>by simp
 | [],j+1=>by simp
 |y :: l,j+1=>by
  rw [List.flatMap_cons,List.take_succ_cons,List.flatMap_cons,←flatMap_take hk l j,Nat.succ_mul,Nat.add_comm,List.take_add,List.take_left' (hk y),List.drop_left' (hk y)]
section
variable {P:Program} {T:Tab} {σ σ' : PS} {o:Oper} {i base:Nat} {ops:Array Oper} {ok:Nat→Nat→Bool} {rest:List (Nat×Oper)} {K:PS→Prop}
theorem PWops.applyE {E:Option Eff} (hg:pguard ops σ o=some true) (hE:presE T (headB ops o.dst) (base+i) (σ.only (ok i)) o.op=E) (hb:σ.freeB (base+i)=true) (h:Go.Proofs.YtoamkpgaaanafaaGreat.applyE σ o.dst E=some σ') (k:PWops P T ops base ok rest K σ'):PWops P T ops base ok ((i,o) :: rest) K σ:=by
 have fin:∀e,E=some e→σ.app o.dst e=σ'→PWops P T ops base ok ((i,o) :: rest) K σ:=fun e he h=>PWops.step hg (hE.trans he) hb (by rw [h];exact k)
 unfold Go.Proofs.YtoamkpgaaanafaaGreat.applyE at h
 split at h
 ·rename_i d v hd
  split at h
  ·rename_i n k' cs e
   split at h
   ·rename_i l hl
    cases h
    exact fin _ rfl (by rw [hd,flist_eq hl];rfl)
   ·cases h
  ·split at h
   ·rename_i p hp
    cases h
    exact fin _ rfl (by rw [hd,fval_eq hp];rfl)
   ·cases h
 ·rename_i d v s hd
  split at h
  ·rename_i p q hp hq
   cases h
   exact fin _ rfl (by rw [hd,fval_eq hp];simp only [PS.app,fval_eq hq];rfl)
  ·cases h
 ·rename_i d v id cs hd
  split at h
  ·rename_i p l hp hl
   cases h
   exact fin _ rfl (by rw [hd,fval_eq hp,flist_eq hl];rfl)
  ·cases h
 ·rename_i v id cs hd
  split at h
  ·rename_i l hl
   cases h
   exact fin _ rfl (by rw [hd,flist_eq hl];rfl)
  ·cases h
 ·rename_i v id cs s hd
  split at h
  ·rename_i l q hl hq
   cases h
   exact fin _ rfl (by rw [hd,flist_eq hl];simp only [PS.app,fval_eq hq];rfl)
  ·cases h
 ·cases h
theorem PWops.stepA (h:stepF T ops base ok i o σ=some σ') (k:PWops P T ops base ok rest K σ'):PWops P T ops base ok ((i,o) :: rest) K σ:=by
 unfold stepF at h
 split at h
 ·rename_i hg
  split at h
  ·rename_i d hd
   cases h
   exact PWops.pass hg hd k
  ·cases h
 ·rename_i hg
  split at h
  ·cases h
  ·split at h
   ·cases h
   ·rename_i hb
    split at h
    ·rename_i d p hd hq
     cases h
     unfold quick at hq
     split at hq
     ·rename_i x hop
      split at hq
      ·rename_i p' hp
       split at hq
       ·cases hq
       ·rename_i hn
        cases hq
        exact PWops.mvC hop hg hd (fcell_eq hp) (by simpa using hn) hb k
      ·cases hq
     ·rename_i x ix hop
      split at hq
      ·rename_i vs hx
       split at hq
       ·rename_i c hc
        split at hq
        ·rename_i p' hp
         split at hq
         ·cases hq
         ·rename_i hn
          cases hq
          have hcp:=fcell_eq hp
          subst hcp
          exact PWops.valEq hg hd (p:=c) (by simp only [hop,presE,pvalA,pval,pev_only,hx,hc,Option.map_some,PV.bare_of _ (by simpa using hn:c.ownB=false)]) rfl hb k
        ·cases hq
       ·cases hq
      ·cases hq
     ·rename_i t x hop
      split at hq
      ·rename_i id off hx
       split at hq
       ·rename_i bs ti h1 h2 h3
        split at hq
        ·cases hq
        ·rename_i ha
         split at hq
         ·rename_i c hc
          split at hq
          ·rename_i p' hp
           split at hq
           ·cases hq
           ·rename_i hn
            cases hq
            exact PWops.ldV hop hg hd hx (by simp only [PS.only,h1,if_true];exact h2) hc h3 (by simpa using ha) hp (by simpa using hn) hb k
          ·cases hq
         ·cases hq
       ·cases hq
      ·cases hq
     ·cases hq
    ·exact PWops.applyE hg rfl hb h k
 ·cases h
theorem PWops.doneI {l:List (Nat×Oper)} (h:l.isEmpty=true) (k:K σ):PWops P T ops base ok l K σ:=by
 cases l with
 |nil=>exact k
 |cons x l=>cases h
def isQuo:Op→Bool
 | .binOp .quo _ _ _ _=>true
 |_=>false
def isRem:Op→Bool
 | .binOp .rem _ _ _ _=>true
 |_=>false
theorem PWops.remK {d:Nat} {x y:Int} (hk:isRem o.op=true) (hg:pguard ops σ o=some true) (hd:o.dst=some d) (hE:feff (presE T (headB ops o.dst) (base+i) (σ.only (ok i)) o.op)=some (.val (.int .i64 (x.tmod y)))) (h:0≤x∧0≤y) (hb:σ.freeB (base+i)=true) (k:PWops P T ops base ok rest K (σ.put d (.val (.int .i64 (x % y))))):PWops P T ops base ok ((i,o) :: rest) K σ:=
 PWops.int _ hg hd hE (Int.tmod_eq_emod_of_nonneg h.1) hb k
theorem PWops.quoK {d:Nat} {x y:Int} (hk:isQuo o.op=true) (hg:pguard ops σ o=some true) (hd:o.dst=some d) (hE:feff (presE T (headB ops o.dst) (base+i) (σ.only (ok i)) o.op)=some (.val (.int .i64 (IntKind.i64.wrap (x.tdiv y))))) (h:0≤x∧0 < y∧x≤9223372036854775807) (hb:σ.freeB (base+i)=true) (k:PWops P T ops base ok rest K (σ.put d (.val (.int .i64 (x / y))))):PWops P T ops base ok ((i,o) :: rest) K σ:=by
 have h1:x.tdiv y=x / y:=Int.tdiv_eq_ediv_of_nonneg h.1
 have h2:0≤x / y:=Int.ediv_nonneg h.1 (by omega)
 have h3:x / y≤x:=Int.ediv_le_self _ h.1
 exact PWops.int _ hg hd hE (by rw [h1,wrap64_id (by omega) (by omega)]) hb k
theorem PWops.idd {l:List (Nat×Oper)} (h:PWops P T ops base ok l K σ):PWops P T ops base ok l K σ:=h
theorem PW.idd {M:Nat} {c:Code} {Q:Exit→PS→Prop} (h:PW P M c Q σ):PW P M c Q σ:=h
theorem PWops.slcRL {α:Type} {d e by_ n k:Nat} {zl:Int} {kl:IntKind} {f:α→List PV} {L:List α} {zr:List PV} {own:Option TypeId} {x lo:Operand} {t:TypeId} {ti:TyI} (hg:pguard ops σ o=some true) (hd:o.dst=some d) (hop:o.op = .slice t x (some lo) none none) (hx:pev σ x = .sl n k (L.flatMap f) own) (hlo:pev σ lo = .val (.int kl zl)) (ht:T.at t=some ti) (hk:ti.kind = .slice e k by_ zr) (hb:σ.freeB (base+i)=true)
  (hf:∀x,(f x).length=k) (h1:0≤zl∧zl≤n∧n=L.length) (kn:PWops P T ops base ok rest K (σ.put d (.sl (L.drop zl.toNat).length k ((L.drop zl.toNat).flatMap f) none))):PWops P T ops base ok ((i,o) :: rest) K σ:=by
 refine PWops.slc zl.toNat n hg hd hop hx ht hk hb rfl ?_ ?_
 ·simp only [Option.map_some,hlo,pbound];rw [if_pos ⟨h1.1,by omega⟩]
 ·have:PV.sl (n - zl.toNat) k (((L.flatMap f).drop (zl.toNat * k)).take ((n - zl.toNat) * k)) none = .sl (L.drop zl.toNat).length k ((L.drop zl.toNat).flatMap f) none:=by
   refine sl_eq (by rw [List.length_drop];omega) ?_
   rw [flatMap_drop hf,List.take_of_length_le (by rw [flatMap_len hf,List.length_drop,h1.2.2];exact Nat.le_refl _)]
  rw [this];exact kn
theorem PWops.slcRH {α:Type} {d e by_ n k:Nat} {zh:Int} {kh:IntKind} {f:α→List PV} {L:List α} {zr:List PV} {own:Option TypeId} {x hi:Operand} {t:TypeId} {ti:TyI} (hg:pguard ops σ o=some true) (hd:o.dst=some d) (hop:o.op = .slice t x none (some hi) none) (hx:pev σ x = .sl n k (L.flatMap f) own) (hhi:pev σ hi = .val (.int kh zh)) (ht:T.at t=some ti) (hk:ti.kind = .slice e k by_ zr) (hb:σ.freeB (base+i)=true)
  (hf:∀x,(f x).length=k) (h1:0≤zh∧zh≤n∧n=L.length) (kn:PWops P T ops base ok rest K (σ.put d (.sl (L.take zh.toNat).length k ((L.take zh.toNat).flatMap f) none))):PWops P T ops base ok ((i,o) :: rest) K σ:=by
 refine PWops.slc 0 zh.toNat hg hd hop hx ht hk hb ?_ rfl ?_
 ·simp only [Option.map_some,hhi,pbound];rw [if_pos ⟨h1.1,h1.2.1⟩]
 ·have:PV.sl (zh.toNat - 0) k (((L.flatMap f).drop (0 * k)).take ((zh.toNat - 0) * k)) none = .sl (L.take zh.toNat).length k ((L.take zh.toNat).flatMap f) none:=by
   refine sl_eq (by rw [List.length_take];omega) ?_
   rw [Nat.zero_mul,List.drop_zero,Nat.sub_zero,flatMap_take hf]
  rw [this];exact kn
end
theorem Weak.sl {n k:Nat} {own:Option TypeId} {ps qs:List PV} (h:WeakL ps qs):Weak (.sl n k ps own) (.sl n k qs none):=by
 refine ⟨fun Φ μ v hr=>?_,fun e=>by simp [PV.ownB] at e⟩
 cases hr with
 |sl0 _ _ a cap hc=>
  cases h
  exact .sl0 _ _ _ _ hc
 |sl _ _ _ _ b off cap us h1 h2 h3 hp hr=>
  have hl:=h.len
  refine .sl n k qs none b off cap us (by rw [←hl];exact h1) h2 h3 (fun j hj=>hp j (by rw [hl];exact hj)) (fun j c hj=>?_)
  obtain ⟨p,hpj,hw⟩:=h.get j c hj
  exact hw.1 _ _ _ (hr j p hpj)
theorem WeakL.refl:∀(ps:List PV),WeakL ps ps
 | []=>.nil
 |p :: ps=>.cons (.refl p) (WeakL.refl ps)
theorem PCalls.args {P:Program} {f:FuncId} {ps qs:List PV} {post:PV→Prop} (h:PCalls P f qs post) (hw:WeakL ps qs):PCalls P f ps post:=by
 refine ⟨h.1,fun Φ μ w vs himm hgl hr=>h.2 Φ μ w vs himm hgl ⟨by rw [hr.1,hw.len],fun j c u hc hu=>?_⟩⟩
 obtain ⟨p,hp,hw'⟩:=hw.get j c hc
 exact hw'.1 _ _ _ (hr.2 j p u hp hu)
end Go.Proofs.YtoamkpgaaanafaaGreat

/- Pure states: a region that draws its order, in which different variables are told apart by what the slots point to when it begins. -/
namespace Go.Proofs.YtoamkpgaaanafaaGreat
set_option linter.unusedSimpArgs false
set_option linter.unusedVariables false
set_option linter.unnecessarySimpa false
open Go.RowKit
def defOf (a:Nat):List Oper→Nat→Option (Nat×Op)
 | [],_=>none
 |o :: r,k=>match o.dst with
  |some d=>if Nat.beq d a then some (k,o.op) else defOf a r (k+1)
  |none=>defOf a r (k+1)
def tgtGo (env:Nat→Option Nat) (base:Nat) (ops:List Oper):Nat→Nat→Option Nat
 |0,_=>none
 |n+1,a=>match defOf a ops 0 with
  |some (k, .alloc _)=>some (base+k)
  |some (k, .box _ _)=>some (base+k)
  |some (_, .fieldAddr _ (.tmp b) _)=>tgtGo env base ops n b
  |some (_, .move (.tmp b))=>tgtGo env base ops n b
  |some (_, .nilCheck (.tmp b))=>tgtGo env base ops n b
  |some (_, .indexAddr _ (.tmp b) _)=>tgtGo env base ops n b
  |some (_, .slice _ (.tmp b) _ _ _)=>tgtGo env base ops n b
  |some _=>none
  |none=>env a
def tgtOf (env:Nat→Option Nat) (base:Nat) (ops:List Oper) (o:Oper):Option Nat:=match o.op with
 | .store _ (.tmp a) _=>tgtGo env base ops 6 a
 | .load _ (.tmp a)=>tgtGo env base ops 6 a
 |_=>none
def envOf (σ:PS) (a:Nat):Option Nat:=match σ.t a with
 | .ptr id _=>some id
 | .msl id _ _ _=>some id
 |_=>none
def okE (env:Nat→Option Nat) (ops:List Oper) (base i id:Nat):Bool:=okD (clos ops) base ops.length i id && (match (ops[i]?).bind (tgtOf env base ops) with|some k=>Nat.beq id k|none=>true)
def sepE (env:Nat→Option Nat) (base:Nat) (ops:List Oper) (iy ix:Nat) (y x:Oper):Bool:=
 (match tgtOf env base ops y with|some k => !okE env ops base ix k|none=>false) || (match tgtOf env base ops x with|some k => !okE env ops base iy k|none=>false)
theorem sepE_ok {env:Nat→Option Nat} {ops:List Oper} {base iy ix:Nat} {y x:Oper} (hy:ops[iy]? = some y) (hx:ops[ix]? = some x) (hs:sepE env base ops iy ix y x=true) (j:Nat) (h1:okE env ops base iy j=true) (h2:okE env ops base ix j=true):False:=by
 have res:∀(i:Nat) o k,ops[i]? = some o→okE env ops base i j=true→tgtOf env base ops o=some k→j=k:=by
  intro i o k ho h hr
  simp only [okE,ho,Option.bind_some,hr,Bool.and_eq_true] at h
  exact Nat.eq_of_beq_eq_true h.2
 simp only [sepE,Bool.or_eq_true] at hs
 rcases hs with hs|hs
 ·cases hr:tgtOf env base ops y with
  |none=>rw [hr] at hs;cases hs
  |some k=>
   rw [hr] at hs
   have e:=res iy y k hy h1 hr
   subst e
   simp [h2] at hs
 ·cases hr:tgtOf env base ops x with
  |none=>rw [hr] at hs;cases hs
  |some k=>
   rw [hr] at hs
   have e:=res ix x k hx h2 hr
   subst e
   simp [h1] at hs
def indE (env:Nat→Option Nat) (base:Nat) (ops:Array Oper) (iy ix:Nat) (y x:Oper):Bool:=
 (match y.dst,x.dst with|some a,some b=>a != b|_,_=>true) &&
 (match y.dst with|some a => !(tmpsOf x.op.operands.toList).contains a && !(guardT ops x).contains a|none=>true) &&
 (match x.dst with|some b => !(tmpsOf y.op.operands.toList).contains b && !(guardT ops y).contains b|none=>true) &&
 (takesB (headB ops y.dst) y).all (fun s => !(takesB (headB ops x.dst) x).contains s) &&
 (!(mapW (headB ops y.dst) y && mapU x) && !(mapW (headB ops x.dst) x && mapU y)) &&
 ((!(storeB y && usesBox x) && !(storeB x && usesBox y) && !(isStore (headB ops y.dst) y && isStore (headB ops x.dst) x)) || sepE env base ops.toList iy ix y x)
def drawE (env:Nat→Option Nat) (base:Nat) (ops:List Oper):Bool:=
 let cl:=clos ops
 (indexed 0 ops).all fun x=>x.2.after.toList.all (fun e => !Region.binds .any e || decide (e.on < x.1)) &&
  (indexed 0 ops).all fun y => !decide (y.1 < x.1) || (cl.getD x.1 []).contains y.1 || indE env base ops.toArray y.1 x.1 y.2 x.2
section
variable {P:Program} {T:Tab} {σ:PS} {ops:Array Oper} {base:Nat} {ok:Nat→Nat→Bool}
theorem ind_partsE {env:Nat→Option Nat} {eb:Nat} {iy ix:Nat} {y x:Oper} (h:indE env eb ops iy ix y x=true):Ind ops (sepE env eb ops.toList iy ix y x=true) y x:=by
 simp only [indE,Bool.and_eq_true,Bool.not_eq_true',Bool.or_eq_true (_ && _) (sepE _ _ _ _ _ _ _)] at h
 obtain ⟨⟨⟨⟨⟨h1,h2⟩,h3⟩,h4⟩,h6⟩,h5⟩:=h
 refine ⟨?_,?_,?_,?_,?_,?_,?_,?_,?_⟩
 ·intro a b ea eb
  rw [ea,eb] at h1
  simpa using h1
 ·intro a ea
  rw [ea] at h2
  simpa using h2
 ·intro a ea
  rw [ea] at h3
  simpa using h3
 ·intro s hs
  have:=List.all_eq_true.1 h4 s hs
  simpa using this
 ·intro e1 e2
  rcases h5 with h5|h5
  ·simp only [e1,e2,Bool.and_eq_true,Bool.not_eq_true',Bool.and_true,Bool.true_and] at h5
   simp at h5
  ·exact h5
 ·intro e1 e2
  rcases h5 with h5|h5
  ·simp only [e1,e2,Bool.and_eq_true,Bool.not_eq_true',Bool.and_true,Bool.true_and] at h5
   simp at h5
  ·exact h5
 ·intro e1 e2
  rcases h5 with h5|h5
  ·simp only [e1,e2,Bool.and_eq_true,Bool.not_eq_true',Bool.and_true,Bool.true_and] at h5
   simp at h5
  ·exact h5
 ·intro e1 e2
  have:=h6.1
  rw [e1,e2] at this;cases this
 ·intro e1 e2
  have:=h6.2
  rw [e1,e2] at this;cases this
end
theorem PWops.bubbleE {P:Program} {T:Tab} {ops:Array Oper} {base:Nat} {ok:Nat→Nat→Bool} {env:Nat→Option Nat} {eb:Nat} {ix:Nat} {x:Oper} {post:List (Nat×Oper)} {Q:PS→Prop} : ∀(pre:List (Nat×Oper)) (σ:PS),(∀y∈pre,(indE env eb ops y.1 ix y.2 x=true∧(sepE env eb ops.toList y.1 ix y.2 x=true→∀j,ok y.1 j=true→ok ix j=true→False))∧y.1≠ix∧ok ix (base+y.1)=false∧ok y.1 (base+ix)=false) →
  PWops P T ops base ok (pre ++ (ix,x) :: post) Q σ→PWops P T ops base ok ((ix,x) :: (pre ++ post)) Q σ
 | [],σ,_,h=>h
 |(iy,y) :: pre,σ,hall,h=>by
  obtain ⟨h1,h2,h3,h4⟩:=hall (iy,y) (by simp)
  have ih:=PWops.bubbleE (P:=P) (T:=T) (ops:=ops) (base:=base) (ok:=ok) (env:=env) (eb:=eb) (ix:=ix) (x:=x) (post:=post) (Q:=Q) pre
  have:PWop P T ops base ok iy y (PWop P T ops base ok ix x (PWops P T ops base ok (pre ++ post) Q)) σ:=
   PWop.mono (fun σ' h' => ih σ' (fun z hz=>hall z (by simp [hz])) h') h
  exact PWop.swap (ind_partsE h1.1) h1.2 h2 h3 h4 this
theorem draw_partsE {env:Nat→Option Nat} {eb:Nat} {ops:List Oper} (h:drawE env eb ops=true):(∀(i:Nat) o,ops[i]? = some o→∀e∈o.after.toList,Region.binds .any e=true→e.on < i) ∧
  (∀(i j:Nat) x y,ops[i]? = some x→ops[j]? = some y→j < i→j∈(clos ops).getD i []∨indE env eb ops.toArray j i y x=true):=by
 have hm:∀(i:Nat) o,ops[i]? = some o→(i,o)∈indexed 0 ops:=by
  have:∀(l:List Oper) (k i:Nat) o,l[i]? = some o→(k+i,o)∈indexed k l:=by
   intro l
   induction l with
   |nil=>intro k i o h;simp at h
   |cons p l ih=>
    intro k i o h
    cases i with
    |zero=>simp at h;subst h;simp [indexed]
    |succ i=>
     simp at h
     have:=ih (k+1) i o h
     simp only [indexed,List.mem_cons]
     right
     rw [show k+(i+1)=k+1+i by omega];exact this
  intro i o h
  have:=this ops 0 i o h
  rwa [Nat.zero_add] at this
 simp only [drawE] at h
 have h':=List.all_eq_true.1 h
 refine ⟨fun i o ho e he hb=>?_,fun i j x y hx hy hji=>?_⟩
 ·have:=h' _ (hm i o ho)
  simp only [Bool.and_eq_true] at this
  have:=List.all_eq_true.1 this.1 e he
  simpa [hb] using this
 ·have:=h' _ (hm i x hx)
  simp only [Bool.and_eq_true] at this
  have:=List.all_eq_true.1 this.2 _ (hm j y hy)
  simp only [hji,decide_true,Bool.not_true,Bool.false_or,Bool.or_eq_true,List.contains_iff_mem] at this
  exact this
section
variable {Φ0:Ent} {W:World} {M:Nat} {P:Program} {T:Tab} {ops:List Oper} {base:Nat} {env:Nat→Option Nat}
theorem any_soundE (hT:T=tabOf P) (hbase:base+ops.toArray.size≤1000000) (hall:∀(j:Nat) o,ops.toArray[j]? = some o→dstB M o=true) (hdraw:drawE env base ops=true) {Q:PS→Prop} {Q' : Exit→Act→World→Prop} (hQ:∀σ a w,Q σ→Rel Φ0 W M σ a w→Q' .normal a w) {r:Option Nat} :
  ∀(fuel:Nat) (listed:Array Bool) (σ:PS) (a:Act) (w:World),unlisted listed≤fuel→listed.size=ops.length→(∀(i:Nat) o,ops[i]? = some o→listed.getD i false=true→∀j,depO o j=true→listed.getD j false=true) →
   PWops P T ops.toArray base (okE env ops base) ((indexed 0 ops).filter fun x => !listed.getD x.1 false) Q σ→Rel Φ0 W M σ a w→wpAnyIn (FW r) 0 P .any ops.toArray Q' fuel listed a w:=by
 obtain ⟨hE,hI⟩:=draw_partsE hdraw
 have hsz:∀listed:Array Bool,listed.size=ops.length→listed.size=ops.toArray.size:=fun l h=>by simpa using h
 have fin:∀(listed:Array Bool) (σ:PS) (a:Act) (w:World),listed.size=ops.length→(∀i,i < ops.length→listed.getD i false=true) →
   PWops P T ops.toArray base (okE env ops base) ((indexed 0 ops).filter fun x => !listed.getD x.1 false) Q σ→Rel Φ0 W M σ a w→Q' .normal a w:=by
  intro listed σ a w hs hl h hr
  have:((indexed 0 ops).filter fun x => !listed.getD x.1 false) = []:=by
   rw [List.filter_eq_nil_iff]
   intro x hx
   obtain ⟨-,h2⟩:=indexed_mem 0 ops x hx
   have:x.1 < ops.length:=by have:=(List.getElem?_eq_some_iff.1 h2).1;omega
   simp [hl x.1 this]
  rw [this] at h
  exact hQ σ a w h hr
 have alls:∀listed:Array Bool,listed.size=ops.length→Region.ready .any ops.toArray listed = []→∀i,i < ops.length→listed.getD i false=true:=by
  intro listed hs hr i
  induction i using Nat.strongRecOn with
  |_ i ih=>
   intro hi
   have ho:ops.toArray[i]? = some ops[i]:=by simp [hi]
   cases hl:listed.getD i false with
   |true=>rfl
   |false=>
    have:i∈Region.ready .any ops.toArray listed:=(mem_ready (hsz listed hs)).2 ⟨ops[i],ho,hl,fun j hj=>by
     obtain ⟨e,he,hb,rfl⟩:=depO_iff.1 hj
     have:=hE i ops[i] (by simp [hi]) e he hb
     exact ih e.on this (by omega)⟩
    rw [hr] at this;cases this
 intro fuel
 induction fuel with
 |zero=>
  intro listed σ a w hu hs hcl h hr
  have hl:=unlisted_zero (Nat.le_zero.1 hu)
  rw [hs] at hl
  refine ⟨?_,fin listed σ a w hs hl h hr⟩
  apply List.eq_nil_iff_forall_not_mem.2
  intro i hi
  obtain ⟨o,ho,h1,_⟩:=(mem_ready (hsz listed hs)).1 hi
  rw [hl i (by have:=(Array.getElem?_eq_some_iff.1 ho).1;simpa using this)] at h1
  cases h1
 |succ fuel ih=>
  intro listed σ a w hu hs hcl h hr
  refine ⟨fun hrd=>fin listed σ a w hs (alls listed hs hrd) h hr,fun i hi=>?_⟩
  obtain ⟨o,ho,h1,h2⟩:=(mem_ready (hsz listed hs)).1 hi
  have ho' : ops[i]? = some o:=by simpa using ho
  have hil:i < ops.length:=(List.getElem?_eq_some_iff.1 ho').1
  have hmem:(i,o)∈(indexed 0 ops).filter fun x => !listed.getD x.1 false:=by
   rw [List.mem_filter]
   refine ⟨?_,by simp [h1]⟩
   have:∀(l:List Oper) (k i:Nat) o,l[i]? = some o→(k+i,o)∈indexed k l:=by
    intro l
    induction l with
    |nil=>intro k i o h;simp at h
    |cons p l ih=>
     intro k i o h
     cases i with
     |zero=>simp at h;subst h;simp [indexed]
     |succ i=>
      simp at h
      have:=ih (k+1) i o h
      simp only [indexed,List.mem_cons]
      right
      rw [show k+(i+1)=k+1+i by omega];exact this
   have:=this ops 0 i o ho'
   rwa [Nat.zero_add] at this
  obtain ⟨pre,post,hL⟩:=List.append_of_mem hmem
  have hsort:((indexed 0 ops).filter fun x => !listed.getD x.1 false).Pairwise (fun a b=>a.1 < b.1):=(indexed_sorted 0 ops).filter _
  rw [hL] at h hsort
  rw [List.pairwise_append] at hsort
  obtain ⟨-,hs2,hs3⟩:=hsort
  rw [List.pairwise_cons] at hs2
  have hpre:∀y∈pre,y.1 < i:=fun y hy=>hs3 y hy (i,o) (by simp)
  have hpost:∀y∈post,i < y.1:=fun y hy=>hs2.1 y hy
  have hprem:∀y∈pre,ops[y.1]? = some y.2∧listed.getD y.1 false=false:=by
   intro y hy
   have:y∈(indexed 0 ops).filter fun x => !listed.getD x.1 false:=by rw [hL];simp [hy]
   rw [List.mem_filter] at this
   obtain ⟨-,q⟩:=indexed_mem 0 ops y this.1
   exact ⟨by simpa using q,by simpa using this.2⟩
  have hb:=PWops.bubbleE (P:=P) (T:=T) (base:=base) (ok:=okE env ops base) (env:=env) (eb:=base) (ix:=i) (x:=o) (post:=post) (Q:=Q) pre σ (by
   intro y hy
   obtain ⟨q1,q2⟩:=hprem y hy
   have hlt:=hpre y hy
   have hnc:y.1∉(clos ops).getD i []:=fun hc=>by
    rw [clos_listed hE hcl i o ho' h2 y.1 hc] at q2;cases q2
   have hyl:y.1 < ops.length:=(List.getElem?_eq_some_iff.1 q1).1
   refine ⟨⟨by simpa using (hI i y.1 o y.2 ho' q1 hlt).resolve_left hnc,fun hs j hj1 hj2=>sepE_ok (ops:=ops) q1 ho' (by simpa using hs) j hj1 hj2⟩,by omega,?_,?_⟩
   ·rw [okE,Bool.and_eq_false_iff];left
    simp only [okD,Bool.or_eq_false_iff,decide_eq_false_iff_not]
    refine ⟨⟨by omega,by omega⟩,?_⟩
    rw [Nat.add_sub_cancel_left]
    simpa using hnc
   ·rw [okE,Bool.and_eq_false_iff];left
    simp only [okD,Bool.or_eq_false_iff,decide_eq_false_iff_not]
    refine ⟨⟨by omega,by omega⟩,?_⟩
    rw [Nat.add_sub_cancel_left]
    have:i∉(clos ops).getD y.1 []:=fun hc=>by have:=clos_lt hE y.1 y.2 q1 i hc;omega
    simpa using this) h
  have hset:listed.getD i false=false:=h1
  have hlt:i < listed.size:=by rw [hs];exact hil
  have hrem:pre ++ post=(indexed 0 ops).filter fun x => !(listed.setIfInBounds i true).getD x.1 false:=by
   have e1:((indexed 0 ops).filter fun x => !(listed.setIfInBounds i true).getD x.1 false)=((indexed 0 ops).filter fun x => !listed.getD x.1 false).filter (fun x => !decide (x.1=i)):=by
    rw [List.filter_filter]
    congr 1
    funext x
    rw [getD_set _ _ _ hlt]
    cases listed.getD x.1 false<;>simp
   rw [e1,hL,List.filter_append,List.filter_cons]
   have e2:pre.filter (fun x => !decide (x.1=i))=pre:=List.filter_eq_self.2 (fun y hy=>by have:=hpre y hy;simp;omega)
   have e3:post.filter (fun x => !decide (x.1=i))=post:=List.filter_eq_self.2 (fun y hy=>by have:=hpost y hy;simp;omega)
   rw [e2,e3]
   simp
  have hcl' : ∀(k:Nat) p,ops[k]? = some p→(listed.setIfInBounds i true).getD k false=true→∀j,depO p j=true→(listed.setIfInBounds i true).getD j false=true:=by
   intro k p hp hk j hj
   rw [getD_set _ _ _ hlt] at hk ⊢
   simp only [Bool.or_eq_true,decide_eq_true_eq] at hk ⊢
   rcases hk with rfl|hk
   ·rw [ho'] at hp;cases hp;exact .inr (h2 j hj)
   ·exact .inr (hcl k p hp hk j hj)
  have hstep:=op_sound (Φ0:=Φ0) (W:=W) (M:=M) hT hall (base:=base) hbase ho (K':=wpAnyIn (FW r) 0 P .any ops.toArray Q' fuel (listed.setIfInBounds i true)) (Q':=Q') (fun σ' a' w' hk hr' => ih (listed.setIfInBounds i true) σ' a' w' (by have:=unlisted_set listed i hlt hset;omega) (by simpa using hs) hcl' (by rw [←hrem];exact hk) hr') hb hr
  unfold wpOpIn
  rw [ho]
  simp only
  split
  ·rename_i hw;rw [if_pos hw] at hstep;exact wpIn_of_wp (dstB_defer (hall i o ho)) hstep
  ·rename_i hw;rw [if_neg hw] at hstep;exact ⟨fun _ _=>trivial,hstep⟩
theorem PW.drawE {Q:Exit→PS→Prop} {σ:PS} (hT:T=tabOf P) (hm:P.follows .mixedOrders=true) {id:Nat} (hall2:(ops.all (dstB M) && Nat.ble (1000 * id+ops.length) 1000000)=true) (hd:drawE (envOf σ) (1000 * id) ops=true)
  (h:PWops P T ops.toArray (1000 * id) (okE (envOf σ) ops (1000 * id)) (indexed 0 ops) (Q .normal) σ):PW P M (.region id ops.toArray true) Q σ:=by
 intro Φ0 W a w hr
 have hall2':=hall2
 simp only [Bool.and_eq_true] at hall2'
 obtain ⟨hall,hb0⟩:=hall2'
 have hbase:=Nat.le_of_ble_eq_true hb0
 refine wpIn_region_any hm ?_
 obtain ⟨Φ,μ,ω,hg⟩:=hr
 refine any_soundE (Φ0:=Φ0) (W:=W) (M:=M) (base:=1000 * id) (env:=envOf σ) (Q:=Q .normal) hT (by simpa using hbase) (by
  intro j o hj
  exact List.all_eq_true.1 hall o (mem_of_get (by simpa using hj))) hd (fun σ a w hq hrel=>⟨_,Φ0,W,hq,Later.refl _ _,hrel⟩) _ _ σ a _ ?_ (by simp) ?_ ?_ ⟨Φ,μ,ω,hg.drew⟩
 ·unfold unlisted
  exact Nat.le_trans List.countP_le_length (by simp)
 ·intro i o ho hl
  simp [Array.getD_eq_getD_getElem?,Array.getElem?_replicate] at hl
  split at hl<;>simp_all
 ·have:((indexed 0 ops).filter fun x => !(Array.replicate ops.toArray.size false).getD x.1 false)=indexed 0 ops:=by
   rw [List.filter_eq_self]
   intro x _
   simp [Array.getD_eq_getD_getElem?,Array.getElem?_replicate]
   split<;>rfl
  rw [this]
  exact h
end
end Go.Proofs.YtoamkpgaaanafaaGreat

/- Pure states: steps at variables in memory whose cells are lists that are not written out; maps; the entries of a map one after the other. -/
namespace Go.Proofs.YtoamkpgaaanafaaGreat
set_option linter.unusedSimpArgs false
set_option linter.unusedVariables false
set_option linter.unnecessarySimpa false
open Go.RowKit
section
variable {P:Program} {T:Tab} {σ:PS} {o:Oper} {i base:Nat} {ops:Array Oper} {ok:Nat→Nat→Bool} {rest:List (Nat×Oper)} {K:PS→Prop}
theorem pres_pval {d:Nat} {p:PV} (hg:pguard ops σ o=some true) (hd:o.dst=some d) (hE:presE T (headB ops o.dst) (base+i) (σ.only (ok i)) o.op=some ⟨p,[],none,[]⟩) (hb:σ.freeB (base+i)=true) (k:PWops P T ops base ok rest K (σ.put d p)):PWops P T ops base ok ((i,o) :: rest) K σ:=
 PWops.valEq hg hd hE rfl hb k
theorem PWops.idxM {d n k m e by_ o' : Nat} {z:Int} {zr:List PV} {kk:IntKind} {x ix:Operand} {t:TypeId} {ti:TyI} (hg:pguard ops σ o=some true) (hd:o.dst=some d) (hop:o.op = .indexAddr t x ix) (hx:pev σ x = .msl m o' n k) (hi:pev σ ix = .val (.int kk z)) (ht:T.at t=some ti) (hk:ti.kind = .slice e k by_ zr) (hb:σ.freeB (base+i)=true) (h0:0≤z∧z < n)
  (kn:PWops P T ops base ok rest K (σ.put d (.ptr m (o' + z.toNat * k)))):PWops P T ops base ok ((i,o) :: rest) K σ:=by
 refine pres_pval hg hd ?_ hb kn
 have h1:k=k∧(0:Int)≤z∧z < (n:Int):=⟨rfl,h0.1,h0.2⟩
 simp [hop,presE,pvalA,pval,pev_only,hx,hi,ht,hk,pindexAt,h1]
theorem PWops.idxP {d n k m o' : Nat} {e:TypeId} {ag:Bool} {z:Int} {kk:IntKind} {x ix:Operand} {t:TypeId} {ti:TyI} (hg:pguard ops σ o=some true) (hd:o.dst=some d) (hop:o.op = .indexAddr t x ix) (hx:pev σ x = .ptr m o') (hi:pev σ ix = .val (.int kk z)) (ht:T.at t=some ti) (hk:ti.kind = .arr n e k ag) (hb:σ.freeB (base+i)=true) (h0:0≤z∧z < n)
  (kn:PWops P T ops base ok rest K (σ.put d (.ptr m (o' + z.toNat * k)))):PWops P T ops base ok ((i,o) :: rest) K σ:=by
 refine pres_pval hg hd ?_ hb kn
 have h1:(0:Int)≤z∧z < (n:Int):=h0
 simp [hop,presE,pvalA,pval,pev_only,hx,hi,ht,hk,pindexAt,h1]
theorem ploadO_ptr {hd:Bool} {b:Nat→Option (List PV)} {t:TypeId} {id off:Nat} {bs:List PV} {ti:TyI} (hb:b id=some bs) (ht:T.at t=some ti) (h:ti.agg=true∨∃c,bs[off]? = some c∧c.ownB=false):ploadO T hd b t (.ptr id off)=none:=by
 simp only [ploadO]
 split
 ·rw [hb]
  simp only
  rcases h with h|⟨c,hc,h⟩
  ·split
   ·rw [ht];simp [h]
   ·rfl
  ·rw [hc]
   cases c with
   |sl n k cs own=>cases own with
    |none=>rfl
    |some E=>simp [PV.ownB] at h
   |_=>rfl
 ·rfl
theorem PWops.ldBA {d off m id:Nat} {bs row:List PV} {x:Operand} {t:TypeId} {kd:TD} {zr:List PV} {es:List SK} (hg:pguard ops σ o=some true) (hd:o.dst=some d) (hop:o.op = .load t x) (hx:pev σ x = .ptr id off) (ht:T.at t=some ⟨m,true,kd,zr,es⟩) (hb:σ.freeB (base+i)=true) (hbs:(σ.only (ok i)).b id=some bs) (hl:off+m≤bs.length) (hr:((bs.drop off).take m).map PV.bare=row)
  (kn:PWops P T ops base ok rest K (σ.put d (.agg row))):PWops P T ops base ok ((i,o) :: rest) K σ:=by
 refine PWops.valEq hg hd (p:=.agg (((bs.drop off).take m).map PV.bare)) ?_ (by rw [hr]) hb kn
 have h1:=ploadO_ptr (T:=T) (hd:=headB ops o.dst) (off:=off) hbs ht (.inl rfl)
 simp only [hop,presE,pev_only,hx,h1,pvalA,pval,ht,ploadAt,hbs,asVal,if_true,hl,Option.map_some]
theorem PWops.ldB {d off id:Nat} {bs:List PV} {c:PV} {x:Operand} {t:TypeId} {ti:TyI} (hg:pguard ops σ o=some true) (hd:o.dst=some d) (hop:o.op = .load t x) (hx:pev σ x = .ptr id off) (ht:T.at t=some ti) (ha:ti.agg=false) (hb:σ.freeB (base+i)=true) (hbs:(σ.only (ok i)).b id=some bs) (hc:bs[off]? = some c) (hn:c.ownB=false)
  (kn:PWops P T ops base ok rest K (σ.put d c)):PWops P T ops base ok ((i,o) :: rest) K σ:=by
 refine PWops.valEq hg hd (p:=c) ?_ rfl hb kn
 have h1:=ploadO_ptr (T:=T) (hd:=headB ops o.dst) (off:=off) hbs ht (.inr ⟨c,hc,hn⟩)
 simp only [hop,presE,pev_only,hx,h1,pvalA,pval,ht,ploadAt,hbs,asVal,ha,hc,Bool.false_eq_true,if_false,Option.map_some,PV.bare_of _ hn]
theorem PWops.stB {off id:Nat} {bs new out:List PV} {x y:Operand} {t:TypeId} {ti:TyI} (hg:pguard ops σ o=some true) (hd:o.dst=none) (hop:o.op = .store t x y) (hx:pev σ x = .ptr id off) (hn:(ownPV σ y).ownB=false) (hp:pcells (pev σ y)=some new) (ht:T.at t=some ti) (hb:σ.freeB (base+i)=true) (hbs:(σ.only (ok i)).b id=some bs) (hl:new.length=ti.size∧off+new.length≤bs.length) (hout:splice bs off new=out)
  (kn:PWops P T ops base ok rest K (σ.setb id out)):PWops P T ops base ok ((i,o) :: rest) K σ:=by
 refine PWops.step hg (E:=⟨.tup [],[(id,out)],none,[]⟩) ?_ hb ?_
 ·have hn' : (ownPV (σ.only (ok i)) y).ownB=false:=by cases y<;>exact hn
  have hl1:=hl.1
  have hl2:=hl.2
  have hsp:=splF_eq _ _ _ hl2
  rw [hout] at hsp
  simp only [hop,presE,pev_only,hx,hn',hbs,ht,hp,Bool.false_eq_true,if_false]
  rw [if_pos ⟨hl1,hl2⟩,hsp]
 ·rw [hd];exact kn
theorem PWops.ldAll {d m id:Nat} {cs:List PV} {x:Operand} {t:TypeId} {kd:TD} {zr:List PV} {es:List SK} (hg:pguard ops σ o=some true) (hd:o.dst=some d) (hop:o.op = .load t x) (hx:pev σ x = .ptr id 0) (ht:T.at t=some ⟨m,true,kd,zr,es⟩) (hb:σ.freeB (base+i)=true) (hbs:(σ.only (ok i)).b id=some cs) (hl:cs.length=m) (hr:cs.map PV.bare=cs)
  (kn:PWops P T ops base ok rest K (σ.put d (.agg cs))):PWops P T ops base ok ((i,o) :: rest) K σ:=
 PWops.ldBA hg hd hop hx ht hb hbs (by omega) (by rw [List.drop_zero,List.take_of_length_le (by omega)];exact hr) kn
theorem PWops.stAll {id:Nat} {bs new:List PV} {x y:Operand} {t:TypeId} {ti:TyI} (hg:pguard ops σ o=some true) (hd:o.dst=none) (hop:o.op = .store t x y) (hx:pev σ x = .ptr id 0) (hn:(ownPV σ y).ownB=false) (hv:pev σ y = .agg new) (ht:T.at t=some ti) (hb:σ.freeB (base+i)=true) (hbs:(σ.only (ok i)).b id=some bs) (hl:new.length=ti.size) (hl2:bs.length=ti.size) (ho:new.all PV.one=true) (hr:new.map PV.bare=new)
  (kn:PWops P T ops base ok rest K (σ.setb id new)):PWops P T ops base ok ((i,o) :: rest) K σ:=
 PWops.stB hg hd hop hx hn (new:=new) (by rw [hv];simp only [pcells,ho,if_true,hr]) ht hb hbs ⟨hl,by omega⟩ (by
  have:splice bs 0 new=new:=by unfold splice;simp;omega
  exact this) kn
theorem PWops.boxA {d:Nat} {cs:List PV} {x:Operand} {t:TypeId} (hg:pguard ops σ o=some true) (hd:o.dst=some d) (hop:o.op = .box t x) (hx:pev σ x = .agg cs) (hb:σ.freeB (base+i)=true) (ho:cs.all PV.one=true) (hr:cs.map PV.bare=cs)
  (kn:PWops P T ops base ok rest K ((σ.setb (base+i) cs).put d (.ptr (base+i) 0))):PWops P T ops base ok ((i,o) :: rest) K σ:=by
 refine PWops.step hg (E:=⟨.ptr (base+i) 0,[(base+i,cs)],none,[]⟩) ?_ hb (by rw [hd];exact kn)
 have h1:(σ.only (ok i)).b (base+i)=none∧(σ.only (ok i)).m (base+i)=none:=by
  obtain ⟨q1,q2⟩:=PS.freeB_spec hb
  simp only [PS.only,q1,q2]
  constructor<;>split<;>rfl
 simp only [hop,presE,pev_only,hx,pcells,ho,if_true,hr,h1.1,h1.2]
theorem PWops.ldRB {α:Type} [Inhabited α] {d j k:Nat} {f:α→List PV} {l:List α} {x:Operand} {t:TypeId} {kd:TD} {zr:List PV} {es:List SK} (hg:pguard ops σ o=some true) (hd:o.dst=some d) (hop:o.op = .load t x) (hx:pev σ x = .ep (l.flatMap f) (j * k)) (ht:T.at t=some ⟨k,true,kd,zr,es⟩) (hb:σ.freeB (base+i)=true) (hk:∀x,(f x).length=k) (hl:j < l.length) (hr:∀x,(f x).map PV.bare=f x)
  (kn:PWops P T ops base ok rest K (σ.put d (.agg (f (l.getD j default))))):PWops P T ops base ok ((i,o) :: rest) K σ:=by
 refine PWops.ldA hg hd hop hx ht hb ?_ ?_ kn
 ·rw [flatMap_len hk]
  have:=Nat.mul_le_mul_right k (show j+1≤l.length from hl)
  rw [Nat.succ_mul] at this;exact this
 ·rw [flatMap_row hk (getD_get default hl)];exact hr _
theorem PWops.ldBR {α:Type} [Inhabited α] {d j k id:Nat} {f:α→List PV} {l:List α} {row:List PV} {x:Operand} {t:TypeId} {kd:TD} {zr:List PV} {es:List SK} (hg:pguard ops σ o=some true) (hd:o.dst=some d) (hop:o.op = .load t x) (hx:pev σ x = .ptr id (0+j * k)) (ht:T.at t=some ⟨k,true,kd,zr,es⟩) (hb:σ.freeB (base+i)=true) (hbs:(σ.only (ok i)).b id=some (l.flatMap f)) (hk:∀x,(f x).length=k) (hl:j < l.length) (hr:(f (l.getD j default)).map PV.bare=row)
  (kn:PWops P T ops base ok rest K (σ.put d (.agg row))):PWops P T ops base ok ((i,o) :: rest) K σ:=by
 refine PWops.ldBA hg hd hop hx ht hb hbs ?_ ?_ kn
 ·rw [flatMap_len hk]
  have:=Nat.mul_le_mul_right k (show j+1≤l.length from hl)
  rw [Nat.succ_mul] at this;omega
 ·rw [Nat.zero_add,flatMap_row hk (getD_get default hl)];exact hr
theorem PWops.ldBC {α:Type} [Inhabited α] {d j k r id:Nat} {f:α→List PV} {l:List α} {c:PV} {x:Operand} {t:TypeId} {ti:TyI} (hg:pguard ops σ o=some true) (hd:o.dst=some d) (hop:o.op = .load t x) (hx:pev σ x = .ptr id (0+j * k+r)) (ht:T.at t=some ti) (ha:ti.agg=false) (hb:σ.freeB (base+i)=true) (hbs:(σ.only (ok i)).b id=some (l.flatMap f)) (hk:∀x,(f x).length=k) (hl:j < l.length) (hc:(f (l.getD j default))[r]? = some c) (hn:c.ownB=false)
  (kn:PWops P T ops base ok rest K (σ.put d c)):PWops P T ops base ok ((i,o) :: rest) K σ:=
 PWops.ldB hg hd hop hx ht ha hb hbs (by rw [Nat.zero_add];exact flatMap_get hk (getD_get default hl) hc) hn kn
theorem PWops.lkp {d mid clock kt et:Nat} {x k:Operand} {t:TypeId} {okk:Bool} {es:List (Nat×PV×PV)} {kv:Value} {ti ki ei:TyI} {c:PV} {b:Bool} (hg:pguard ops σ o=some true) (hd:o.dst=some d) (hop:o.op = .lookup t x k okk) (hx:pev σ x = .mref mid) (hm:(σ.only (ok i)).m mid=some (.map es clock)) (hkv:pev σ k = .val kv) (ht:T.at t=some ti) (hk:ti.kind = .map kt et) (hki:T.at kt=some ki) (hei:T.at et=some ei) (hb:σ.freeB (base+i)=true)
  (hget:mget ki ei es kv=some (c,b)) (kn:PWops P T ops base ok rest K (σ.put d (if okk then .tup [c, .val (.bool b)] else c))):PWops P T ops base ok ((i,o) :: rest) K σ:=by
 refine PWops.valEq hg hd (p:=if okk then .tup [c, .val (.bool b)] else c) ?_ rfl hb kn
 simp only [hop,presE,pvalA,pval,pvalX,ht,hk,plookup,pev_only,hx,hkv,hki,hei,pents,hm,hget,Option.map_some]
theorem PWops.mput {mid clock kt et:Nat} {x k v:Operand} {t:TypeId} {es:List (Nat×PV×PV)} {kv:Value} {ti ki:TyI} {X:PMap} {p:PV} (hg:pguard ops σ o=some true) (hd:o.dst=none) (hop:o.op = .mapUpdate t x k v) (hx:pev σ x = .mref mid) (hm:(σ.only (ok i)).m mid=some (.map es clock)) (hkv:pev σ k = .val kv) (ht:T.at t=some ti) (hk:ti.kind = .map kt et) (hki:T.at kt=some ki) (hb:σ.freeB (base+i)=true)
  (hn:(ownPV σ v).ownB=false) (hv:pev σ v=p) (hput:Go.Proofs.YtoamkpgaaanafaaGreat.mput ki es clock kv p=some X) (kn:PWops P T ops base ok rest K (σ.setm mid X)):PWops P T ops base ok ((i,o) :: rest) K σ:=by
 refine PWops.stepM hg (E:=⟨.tup [],[],none,[(mid,X)]⟩) ?_ hb ?_
 ·have hn' : (ownPV (σ.only (ok i)) v).ownB=false:=by cases v<;>exact hn
  simp only [hop,presM,pput,ht,hk,hki,pev_only,hx,mapOf,hm,hkv,ownArg,hn',Bool.false_eq_true,if_false,hv,hput,Option.map_some]
 ·rw [hd];exact kn
theorem PWops.mdel {mid clock kt et:Nat} {x k:Operand} {t:TypeId} {tl:List TypeId} {es:List (Nat×PV×PV)} {kv:Value} {ti ki:TyI} {X:PMap} (hg:pguard ops σ o=some true) (hd:o.dst=none) (hop:o.op = .call { callee:=.builtin .delete,args := #[x,k],argTypes:=(t :: tl).toArray }) (hx:pev σ x = .mref mid) (hm:(σ.only (ok i)).m mid=some (.map es clock)) (hkv:pev σ k = .val kv) (ht:T.at t=some ti) (hk:ti.kind = .map kt et) (hki:T.at kt=some ki) (hb:σ.freeB (base+i)=true)
  (hdel:Go.Proofs.YtoamkpgaaanafaaGreat.mdel ki es clock kv=some X) (kn:PWops P T ops base ok rest K (σ.setm mid X)):PWops P T ops base ok ((i,o) :: rest) K σ:=by
 refine PWops.stepM hg (E:=⟨.tup [],[],none,[(mid,X)]⟩) ?_ hb ?_
 ·simp only [hop,presM,pdel,ht,hk,hki,pev_only,hx,mapOf,hm,hkv,hdel,Option.map_some]
 ·rw [hd];exact kn
theorem PWops.copy {d n k e by_ id o' n2:Nat} {bs cs out zr:List PV} {x y:Operand} {t:TypeId} {tl:List TypeId} {ti:TyI} (hg:pguard ops σ o=some true) (hop:o.op = .call { callee:=.builtin .copy,args := #[x,y],argTypes:=(t :: tl).toArray }) (hd:o.dst=some d) (hx:pev σ x = .msl id o' n k) (hbs:(σ.only (ok i)).b id=some bs) (hy:copySrc (σ.only (ok i)).b k (pev σ y)=some (n2,cs)) (ht:T.at t=some ti) (hk:ti.kind = .slice e k by_ zr) (hb:σ.freeB (base+i)=true)
  (hl:o' + min n2 n * k≤bs.length) (hcl:min n2 n * k≤cs.length) (hout:splice bs o' (cs.take (min n2 n * k))=out) (kn:PWops P T ops base ok rest K ((σ.setb id out).put d (.val (.int .i64 (min n2 n:Nat))))):PWops P T ops base ok ((i,o) :: rest) K σ:=by
 refine PWops.stepM hg (E:=⟨.val (.int .i64 (min n2 n:Nat)),[(id,out)],none,[]⟩) ?_ hb ?_
 ·have e1:o' + (cs.take (min n2 n * k)).length≤bs.length:=by rw [List.length_take,Nat.min_eq_left hcl];exact hl
  simp only [hop,presM,ht,pcopy,hk,pev_only,hx,hbs,hy,hl,and_self,if_true,splF_eq _ _ _ e1,hout]
 ·rw [hd];exact kn
theorem PWops.eqA {d:Nat} {op:BinOp} {xs ys:List PV} {x y:Operand} {t yt:TypeId} {ti:TyI} {b:Bool} (hg:pguard ops σ o=some true) (hd:o.dst=some d) (hop:o.op = .binOp op t x y yt) (hx:pev σ x = .agg xs) (hy:pev σ y = .agg ys) (ht:T.at t=some ti) (hb:σ.freeB (base+i)=true) (hne:ti.eqs.isEmpty=false) (h:peqs ti.eqs xs ys=some b) (ho:op = .eql∨op = .neq) (kn:PWops P T ops base ok rest K (σ.put d (.val (.bool (if op = .eql then b else !b))))):PWops P T ops base ok ((i,o) :: rest) K σ:=by
 refine PWops.valEq hg hd (p:=.val (.bool (if op = .eql then b else !b))) ?_ rfl hb kn
 have:pbinA op ti.eqs xs ys=some (.bool (if op = .eql then b else !b)):=by
  unfold pbinA
  cases he:ti.eqs with
  |nil=>rw [he] at hne;cases hne
  |cons k ks=>
   rw [he] at h
   rcases ho with rfl|rfl
   ·simp [h]
   ·simp [h]
 simp only [hop,presE,pvalA,pval,pev_only,hx,hy,ht,this,Option.map_some]
theorem peqs_ints {k:IntKind} : ∀(xs ys:List Int),xs.length=ys.length→peqs (List.replicate xs.length .int) (xs.map fun x=>.val (.int k x)) (ys.map fun x=>.val (.int k x))=some (xs == ys)
 | [],[],_=>rfl
 |x :: xs,y :: ys,h=>by
  have ih:=peqs_ints (k:=k) xs ys (by simpa using h)
  simp only [List.length_cons,List.replicate_succ,List.map_cons,peqs,veq,if_true,ih]
  rfl
 | [],y :: ys,h=>by simp at h
 |x :: xs,[],h=>by simp at h
theorem PWops.shlK {d:Nat} {k k' : IntKind} {x y:Int} {X Y:Operand} {t yt:TypeId} (hg:pguard ops σ o=some true) (hd:o.dst=some d) (hop:o.op = .binOp .shl t X Y yt) (hx:pev σ X = .val (.int k x)) (hy:pev σ Y = .val (.int k' y)) (hb:σ.freeB (base+i)=true) (h0:0≤y) (kn:PWops P T ops base ok rest K (σ.put d (.val (.int k (k.wrap (x * 2 ^ (min y.toNat k.bits))))))):PWops P T ops base ok ((i,o) :: rest) K σ:=by
 refine PWops.valEq hg hd (p:=.val (.int k (k.wrap (x * 2 ^ (min y.toNat k.bits))))) ?_ rfl hb kn
 simp only [hop,presE,pvalA,pval,pev_only,hx,hy,pbin,h0,if_true]
 rfl
theorem PWops.shrK {d:Nat} {k k' : IntKind} {x y:Int} {X Y:Operand} {t yt:TypeId} (hg:pguard ops σ o=some true) (hd:o.dst=some d) (hop:o.op = .binOp .shr t X Y yt) (hx:pev σ X = .val (.int k x)) (hy:pev σ Y = .val (.int k' y)) (hb:σ.freeB (base+i)=true) (h0:0≤y) (kn:PWops P T ops base ok rest K (σ.put d (.val (.int k (x.fdiv (2 ^ (min y.toNat k.bits))))))):PWops P T ops base ok ((i,o) :: rest) K σ:=by
 refine PWops.valEq hg hd (p:=.val (.int k (x.fdiv (2 ^ (min y.toNat k.bits))))) ?_ rfl hb kn
 simp only [hop,presE,pvalA,pval,pev_only,hx,hy,pbin,h0,if_true]
 rfl
theorem PWops.litA {d k e by_:Nat} {cs zr:List PV} {x:Operand} {t:TypeId} {ti:TyI} (hg:pguard ops σ o=some true) (hd:o.dst=some d) (hop:o.op = .buildSlice t 1 #[(0,x)]) (hx:pev σ x = .agg cs) (ht:T.at t=some ti) (hk:ti.kind = .slice e k by_ zr) (hb:σ.freeB (base+i)=true) (hl:cs.length=k) (hz:zr.length=k) (hk2:Nat.ble k 16777216=true) (he:Nat.blt e 1000000=true) (ho:cs.all PV.one=true) (hr:cs.map PV.bare=cs) (kn:PWops P T ops base ok rest K (σ.put d (.sl 1 k cs (some e)))):PWops P T ops base ok ((i,o) :: rest) K σ:=by
 refine PWops.step hg (E:=⟨.sl 1 k cs (some e),[],none,[]⟩) ?_ hb (by rw [hd];exact kn)
 have e1:(List.replicate 1 zr).flatten=zr:=by simp
 have hle:1 * k≤16777216:=by have:=Nat.le_of_ble_eq_true hk2;omega
 have he' : e < 1000000:=by simpa [Nat.blt_eq] using he
 have hs:splF zr 0 cs=cs:=by
  rw [splF_eq _ _ _ (by omega)]
  unfold splice;simp;omega
 simp only [hop,presE,ht,hk,hle,he',and_self,if_true,e1,List.map_cons,List.map_nil,pev_only,hx,pfill,pcells,ho,hr,hl,hz,Nat.zero_mul,Nat.zero_add,Nat.le_refl,and_self,hs,Option.map_some]
theorem PW.stamps {M:Nat} {c:Code} {Q:Exit→PS→Prop} {id clock:Nat} {es:List (Nat×PV×PV)} (hm:σ.m id=some (.map es clock)) (h:StampsOK es clock→PW P M c Q σ):PW P M c Q σ:=by
 intro Φ0 W a w hr
 obtain ⟨Φ,μ,ω,hg⟩:=hr
 obtain ⟨g,-,-,-,-,hst,-⟩:=hg.map id _ hm
 exact h hst Φ0 W a w ⟨Φ,μ,ω,hg⟩
end
theorem PW.condTe {P:Program} {M:Nat} {Q:Exit→PS→Prop} {σ:PS} {c:Operand} {x y:Code} {b:Bool} (hc:pev σ c = .val (.bool b)) (hb:b=true) (h:PW P M x Q σ):PW P M (.cond c x y) Q σ:=PW.condT (by rw [hc,hb]) h
theorem PW.condFe {P:Program} {M:Nat} {Q:Exit→PS→Prop} {σ:PS} {c:Operand} {x y:Code} {b:Bool} (hc:pev σ c = .val (.bool b)) (hb:b=false) (h:PW P M y Q σ):PW P M (.cond c x y) Q σ:=PW.condF (by rw [hc,hb]) h
end Go.Proofs.YtoamkpgaaanafaaGreat

/- Pure states: arrays whose cells are lists that are not written out; rounds of a loop one by one. -/
namespace Go.Proofs.YtoamkpgaaanafaaGreat
set_option linter.unusedSimpArgs false
set_option linter.unusedVariables false
set_option linter.unnecessarySimpa false
open Go.RowKit
section
variable {P:Program} {M:Nat} {Q:Exit→PS→Prop} {σ:PS}
def PWin (P:Program) (M:Nat) (c:Code) (Q:Exit→PS→Prop) (σ:PS):Prop:=
 ∀Φ0 W a w,Rel Φ0 W M σ a w→∀b k cs,b.roundOf=(FW Φ0.round).round→(FW Φ0.round).fn b.fn→(FW Φ0.round).room (cs.length+1+0)→∃e a' w',Lift Φ0 W M Q e a' w'∧ArrivesIn (Machine.fenced P (FW Φ0.round)) P (lone (b.atR a (.code c :: .inLoop c :: k)) cs w) b k cs e a' w'
theorem PWin.from {c:Code} (h:PWin P M c Q σ) {Φ0 Φ1:Ent} {W W1:World} (hl:Later Φ0 W Φ1 W1) {a:Act} {w:World} (hr:Rel Φ1 W1 M σ a w):∀b k cs,b.roundOf=(FW Φ0.round).round→(FW Φ0.round).fn b.fn→(FW Φ0.round).room (cs.length+1+0)→∃e a' w',Lift Φ0 W M Q e a' w'∧ArrivesIn (Machine.fenced P (FW Φ0.round)) P (lone (b.atR a (.code c :: .inLoop c :: k)) cs w) b k cs e a' w':=by
 have:=h Φ1 W1 a w hr
 rw [hl.round] at this
 intro b k cs h1 h2 h3
 obtain ⟨e,a',w',hq,harr⟩:=this b k cs h1 h2 h3
 exact ⟨e,a',w',hq.later hl,harr⟩
def LoopU (P:Program) (M:Nat) (c:Code) (Q:Exit→PS→Prop):Exit→PS→Prop
 | .normal,σ=>PWin P M c Q σ
 |e,σ=>Q e σ
theorem PWin.round {c:Code} (h:PW P M c (LoopU P M c Q) σ):PWin P M c Q σ:=by
 intro Φ0 W a w hr b k cs hro hb hroom
 obtain ⟨e,a₁,w₁,⟨σ₁,Φ1,W1,hq,hl,hrel⟩,harr⟩:=h Φ0 W a w hr b (.inLoop c :: k) cs hro hb hroom
 cases e with
 |normal=>
  obtain ⟨e₂,a₂,w₂,hq₂,harr₂⟩:=PWin.from hq hl hrel b k cs hro hb hroom
  exact ⟨e₂,a₂,w₂,hq₂, .of_steps (StepsIn.trans harr (.one (fenced_calm hb hroom rfl) stepR_inLoop)) harr₂⟩
 |exit id=>exact ⟨_,a₁,w₁,⟨σ₁,Φ1,W1,hq,hl,hrel⟩, .pass (x:=.inLoop c) rfl (fun _ _=>.inl (by simp)) harr⟩
 |goto l=>exact ⟨_,a₁,w₁,⟨σ₁,Φ1,W1,hq,hl,hrel⟩, .pass (x:=.inLoop c) rfl (fun _ _=>.inl (by simp)) harr⟩
 |ret=>exact ⟨_,a₁,w₁,⟨σ₁,Φ1,W1,hq,hl,hrel⟩, .pass (x:=.inLoop c) rfl (fun _ _=>.inl (by simp)) harr⟩
 |panic ch=>exact ⟨_,a₁,w₁,⟨σ₁,Φ1,W1,hq,hl,hrel⟩, .pass (x:=.inLoop c) rfl (fun _ _=>.inl (by simp)) harr⟩
 |outgrown=>exact ⟨_,a₁,w₁,⟨σ₁,Φ1,W1,hq,hl,hrel⟩, .pass (x:=.inLoop c) rfl (fun _ _=>.inl (by simp)) harr⟩
theorem loopU_exit {c:Code} {j:Nat} (h:Q (.exit j) σ):LoopU P M c Q (.exit j) σ:=h
theorem loopU_ret {c:Code} (h:Q .ret σ):LoopU P M c Q .ret σ:=h
end
section
variable {κ:Nat→Nat} {S:Nat→Prop} {σ σ' : PS}
theorem SubR.isb {i:Nat} {c:List PV} (h:SubR κ S σ (σ'.setb i c)):SubR κ S σ (σ'.setb i c):=h
theorem SubR.ism {i:Nat} {c:PMap} (h:SubR κ S σ (σ'.setm i c)):SubR κ S σ (σ'.setm i c):=h
theorem SubR.isp {i:Nat} {c:PV} (h:SubR κ S σ (σ'.put i c)):SubR κ S σ (σ'.put i c):=h
end
def pu32 (z:Int):PV:=.val (.int .u32 z)
def pu64 (z:Int):PV:=.val (.int .u64 z)
theorem low_pu32 (z:Int):Low (pu32 z)↔True:=low_val _
theorem low_pu64 (z:Int):Low (pu64 z)↔True:=low_val _
theorem len_map {α β:Type} {f:α→β} {l:List α} {n:Nat} (h:l.length=n):(l.map f).length=n:=by rw [List.length_map,h]
theorem bare_map {α:Type} {f:α→PV} (h:∀x,(f x).bare=f x) (l:List α):(l.map f).map PV.bare=l.map f:=by rw [List.map_map];exact List.map_congr_left fun x _=>h x
theorem one_map {α:Type} {f:α→PV} (h:∀x,(f x).one=true) (l:List α):(l.map f).all PV.one=true:=by rw [List.all_map,List.all_eq_true];exact fun x _=>h x
theorem low_map {α:Type} {f:α→PV} (h:∀x,Low (f x)) (l:List α):∀c∈l.map f,Low c:=by
 intro c hc
 obtain ⟨z,-,rfl⟩:=List.mem_map.1 hc
 exact h z
theorem RenQL.lowE {κ:Nat→Nat} {S:Nat→Prop} {qs ps:List PV} (h:qs=ps) (hl:∀p∈ps,Low p):RenQL κ S qs ps:=by subst h;exact RenQL.low hl
section
variable {P:Program} {T:Tab} {σ:PS} {o:Oper} {i base:Nat} {ops:Array Oper} {ok:Nat→Nat→Bool} {rest:List (Nat×Oper)} {K:PS→Prop}
def notI64:IntKind→Bool
 | .i64=>false
 |_=>true
theorem PWops.arU {d:Nat} {k:IntKind} {z:Int} (hk:isArith o.op=true) (hg:pguard ops σ o=some true) (hd:o.dst=some d) (hE:feff (presE T (headB ops o.dst) (base+i) (σ.only (ok i)) o.op)=some (.val (.int k z))) (hn:notI64 k=true) (hb:σ.freeB (base+i)=true) (kn:PWops P T ops base ok rest K (σ.put d (.val (.int k z)))):PWops P T ops base ok ((i,o) :: rest) K σ:=PWops.val hg hd hE hb kn
theorem PWops.idxE1 {d n:Nat} {e:TypeId} {ag:Bool} {z:Int} {cs:List PV} {kk:IntKind} {x ix:Operand} {t:TypeId} {ti:TyI} (hg:pguard ops σ o=some true) (hd:o.dst=some d) (hop:o.op = .indexAddr t x ix) (hx:pev σ x = .ep cs 0) (hi:pev σ ix = .val (.int kk z)) (ht:T.at t=some ti) (hk:ti.kind = .arr n e 1 ag) (hb:σ.freeB (base+i)=true) (h0:0≤z∧z < n)
  (kn:PWops P T ops base ok rest K (σ.put d (.ep cs z.toNat))):PWops P T ops base ok ((i,o) :: rest) K σ:=by
 refine pres_pval hg hd ?_ hb kn
 have h1:(0:Int)≤z∧z < (n:Int):=h0
 simp [hop,presE,pvalA,pval,pev_only,hx,hi,ht,hk,pindexAt,h1]
theorem PWops.idxP1 {d n m:Nat} {e:TypeId} {ag:Bool} {z:Int} {kk:IntKind} {x ix:Operand} {t:TypeId} {ti:TyI} (hg:pguard ops σ o=some true) (hd:o.dst=some d) (hop:o.op = .indexAddr t x ix) (hx:pev σ x = .ptr m 0) (hi:pev σ ix = .val (.int kk z)) (ht:T.at t=some ti) (hk:ti.kind = .arr n e 1 ag) (hb:σ.freeB (base+i)=true) (h0:0≤z∧z < n)
  (kn:PWops P T ops base ok rest K (σ.put d (.ptr m z.toNat))):PWops P T ops base ok ((i,o) :: rest) K σ:=by
 refine pres_pval hg hd ?_ hb kn
 have h1:(0:Int)≤z∧z < (n:Int):=h0
 simp [hop,presE,pvalA,pval,pev_only,hx,hi,ht,hk,pindexAt,h1]
theorem PWops.idxV {α:Type} [Inhabited α] {d n:Nat} {e:TypeId} {z:Int} {f:α→PV} {l:List α} {q:PV} {kk:IntKind} {x ix:Operand} {t:TypeId} {ti:TyI} (hg:pguard ops σ o=some true) (hd:o.dst=some d) (hop:o.op = .index t x ix) (hx:pev σ x = .agg (l.map f)) (hi:pev σ ix = .val (.int kk z)) (ht:T.at t=some ti) (hk:ti.kind = .arr n e 1 false) (hb:σ.freeB (base+i)=true) (h0:0≤z∧z < n∧z < l.length) (hq:fval (f (l.getD z.toNat default)).bare=some q)
  (kn:PWops P T ops base ok rest K (σ.put d q)):PWops P T ops base ok ((i,o) :: rest) K σ:=by
 refine PWops.valEq hg hd (p:=(f (l.getD z.toNat default)).bare) ?_ (fval_eq hq) hb kn
 have h1:(0:Int)≤z∧z < (n:Int):=⟨h0.1,h0.2.1⟩
 have h2:(l.map f)[z.toNat]? = some (f (l.getD z.toNat default)):=map_get (getD_get default (by omega))
 simp [hop,presE,pvalA,pval,pev_only,hx,hi,ht,hk,pindexV,h1,asVal,h2]
theorem PWops.ldG {d m:Nat} {cs:List PV} {x:Operand} {t:TypeId} {kd:TD} {zr:List PV} {es:List SK} (hg:pguard ops σ o=some true) (hd:o.dst=some d) (hop:o.op = .load t x) (hx:pev σ x = .ep cs 0) (ht:T.at t=some ⟨m,true,kd,zr,es⟩) (hb:σ.freeB (base+i)=true) (hl:cs.length=m) (hr:cs.map PV.bare=cs)
  (kn:PWops P T ops base ok rest K (σ.put d (.agg cs))):PWops P T ops base ok ((i,o) :: rest) K σ:=by
 refine PWops.ldA hg hd hop hx ht hb (by omega) ?_ kn
 rw [List.drop_zero,List.take_of_length_le (by omega)];exact hr
theorem PWops.ldMB {α:Type} [Inhabited α] {d id off:Nat} {f:α→PV} {l:List α} {q:PV} {x:Operand} {t:TypeId} {ti:TyI} (hg:pguard ops σ o=some true) (hd:o.dst=some d) (hop:o.op = .load t x) (hx:pev σ x = .ptr id off) (ht:T.at t=some ti) (ha:ti.agg=false) (hb:σ.freeB (base+i)=true) (hbs:(σ.only (ok i)).b id=some (l.map f)) (hl:off < l.length) (hq:fval (f (l.getD off default))=some q) (hn:(f (l.getD off default)).ownB=false)
  (kn:PWops P T ops base ok rest K (σ.put d q)):PWops P T ops base ok ((i,o) :: rest) K σ:=
 PWops.ldB hg hd hop hx ht ha hb hbs (map_get (getD_get default hl)) hn (by rw [fval_eq hq];exact kn)
theorem set_map {α β:Type} (f:α→β) (l:List α) (j:Nat) (x:α):(l.map f).set j (f x)=(l.set j x).map f:=by
 rw [List.map_set]
theorem splice_one {bs:List PV} {off:Nat} {c:PV} (h:off < bs.length):splice bs off [c]=bs.set off c:=by
 unfold splice
 rw [List.set_eq_take_append_cons_drop,if_pos h];simp
theorem PWops.stMB {α:Type} {id off:Nat} {f:α→PV} {l:List α} {v:α} {x y:Operand} {t:TypeId} {ti:TyI} (hg:pguard ops σ o=some true) (hd:o.dst=none) (hop:o.op = .store t x y) (hx:pev σ x = .ptr id off) (hn:(ownPV σ y).ownB=false) (ht:T.at t=some ti) (hb:σ.freeB (base+i)=true) (hbs:(σ.only (ok i)).b id=some (l.map f)) (hp:pcells (pev σ y)=some [f v]) (hs:ti.size=1) (hl:off < l.length)
  (kn:PWops P T ops base ok rest K (σ.setb id ((l.set off v).map f))):PWops P T ops base ok ((i,o) :: rest) K σ:=by
 refine PWops.stB hg hd hop hx hn hp ht hb hbs ⟨by rw [hs];rfl,by simp;omega⟩ ?_ kn
 rw [splice_one (by simpa using hl),set_map]
theorem PWops.slcP {d id o' n k h l:Nat} {e:TypeId} {ag:Bool} {x:Operand} {lo hi:Option Operand} {t:TypeId} {ti:TyI} (hg:pguard ops σ o=some true) (hd:o.dst=some d) (hop:o.op = .slice t x lo hi none) (hx:pev σ x = .ptr id o') (ht:T.at t=some ti) (hk:ti.kind = .arr n e k ag) (hb:σ.freeB (base+i)=true) (hh:pbound n n (hi.map (pev σ))=some h) (hlo:pbound 0 h (lo.map (pev σ))=some l) (hn:n≤1000000000)
  (kn:PWops P T ops base ok rest K (σ.put d (.msl id (o' + l * k) (h - l) k))):PWops P T ops base ok ((i,o) :: rest) K σ:=by
 refine pres_pval hg hd ?_ hb kn
 have e1:∀x:Operand,pev (σ.only (ok i)) x=pev σ x:=fun x=>pev_only ..
 have e2:∀x:Option Operand,x.map (pev (σ.only (ok i)))=x.map (pev σ):=fun x=>by cases x<;>simp [e1]
 simp [hop,presE,pvalA,pval,pev_only,e2,hx,ht,hk,pslice,hh,hlo,hn]
end
end Go.Proofs.YtoamkpgaaanafaaGreat

/- Contracts of functions that only read, called with slices of variables. -/
namespace Go.Proofs.YtoamkpgaaanafaaGreat
set_option linter.unusedSimpArgs false
set_option linter.unusedVariables false
set_option linter.unnecessarySimpa false
open Go.RowKit
def immA (w:World):Imm:=fun b o=>w.cell? ⟨b,o,none⟩
theorem Flat.lowF {p:PV} (h:Flat p):Low p:=by
 induction h with
 |undef=>exact .undef
 |val v=>exact .val v
 |nilsl=>exact .nilsl
 |agg cs h ih=>exact .agg cs ih
 |tup cs h ih=>exact .tup cs ih
inductive AsRead (given:List (Nat×List PV)):PV→PV→Prop
 |same (p:PV):AsRead given p p
 |msl (id o n k:Nat) (bs:List PV) (h:(id,bs)∈given) (hl:o+n * k≤bs.length):AsRead given (.msl id o n k) (.sl n k ((bs.drop o).take (n * k)) none)
inductive AsReadL (given:List (Nat×List PV)):List PV→List PV→Prop
 |nil:AsReadL given [] []
 |cons {p q:PV} {ps qs:List PV} (h:AsRead given p q) (hs:AsReadL given ps qs):AsReadL given (p :: ps) (q :: qs)
theorem AsRead.rep {given:List (Nat×List PV)} {p q:PV} (h:AsRead given p q) {B:Nat→Prop} {Φ:Imm} {μ:Nat→Option Nat} {ω:Nat→Option Who} {w:World} {v:Value} (himm:∀b o u,Φ b o=some u→w.cell? ⟨b,o,none⟩=some u) (hgb:∀x∈given,BoxAt B Φ μ ω w x.1 x.2) (hr:Rep Φ μ p v):Rep (immA w) μ q v:=by
 cases h with
 |same=>exact hr.mono himm (fun _ _ e=>e)
 |msl id o n k bs h hl=>
  obtain ⟨a,cap,rfl,h1,h2,h3⟩:=hr.msl_inv
  obtain ⟨g,cur,T,k1,k2,-,-,-,k6,k7⟩:=hgb _ h
  by_cases hn:n=0
  ·subst hn
   rw [Nat.zero_mul,List.take_zero]
   exact .sl0 k none a cap h2
  ·obtain ⟨g',e1,rfl⟩:=h3 (by omega)
   simp only at k1
   rw [k1] at e1
   cases e1
   have hlen:((bs.drop o).take (n * k)).length=n * k:=by rw [List.length_take,List.length_drop];omega
   have hget:∀j c,((bs.drop o).take (n * k))[j]? = some c→bs[o+j]? = some c:=by
    intro j c hc
    rw [List.getElem?_take] at hc
    split at hc
    ·rwa [List.getElem?_drop] at hc
    ·cases hc
   have hcell:∀j,immA w g (o+j)=cur[o+j]?:=fun j=>by simp only [immA,World.cell?,k2];simp
   refine .sl n k _ none g o cap (fun j=>cur.getD (o+j) undef) hlen h1 h2 (fun j hj=>?_) (fun j c hc=>?_)
   ·rw [hcell]
    obtain ⟨c,hc⟩:∃c,((bs.drop o).take (n * k))[j]? = some c:=⟨_,List.getElem?_eq_getElem hj⟩
    obtain ⟨u,r1,-⟩:=k7 _ _ (hget j c hc)
    rw [r1,Array.getD_eq_getD_getElem?,r1];rfl
   ·obtain ⟨u,r1,-,r3,-⟩:=k7 _ _ (hget j c hc)
    rw [Array.getD_eq_getD_getElem?,r1]
    exact r3.mono himm (fun _ _ e=>e)
theorem AsReadL.rep {given:List (Nat×List PV)} {ps qs:List PV} (h:AsReadL given ps qs) {B:Nat→Prop} {Φ:Imm} {μ:Nat→Option Nat} {ω:Nat→Option Who} {w:World} (himm:∀b o u,Φ b o=some u→w.cell? ⟨b,o,none⟩=some u) (hgb:∀x∈given,BoxAt B Φ μ ω w x.1 x.2):∀{vs:List Value},RepL Φ μ ps vs→RepL (immA w) μ qs vs:=by
 induction h with
 |nil=>exact fun hr=>⟨hr.1,fun j c u hc=>by simp at hc⟩
 |cons h hs ih=>
  intro vs hr
  cases vs with
  |nil=>exact absurd hr.1 (by simp)
  |cons v vs=>
   have h1:=h.rep himm hgb (hr.2 0 _ _ rfl rfl)
   have h2:=ih (vs:=vs) ⟨by simpa using hr.1,fun j c u hc hu=>hr.2 (j+1) c u (by simpa using hc) (by simpa using hu)⟩
   exact .cons h1 h2
section
variable {P:Program} {T:Tab} {σ:PS} {o:Oper} {i base:Nat} {ops:Array Oper} {ok:Nat→Nat→Bool} {rest:List (Nat×Oper)} {K:PS→Prop}
theorem PWops.valE {d:Nat} {p q:PV} (hg:pguard ops σ o=some true) (hd:o.dst=some d) (hE:feff (presE T (headB ops o.dst) (base+i) (σ.only (ok i)) o.op)=some p) (e:p=q) (hb:σ.freeB (base+i)=true) (k:PWops P T ops base ok rest K (σ.put d q)):PWops P T ops base ok ((i,o) :: rest) K σ:=
 PWops.val hg hd (by rw [hE,e]) hb k
theorem PWops.cvI {d:Nat} {z:Int} {x:Operand} {ts td:TypeId} (hop:o.op = .convert ts td x) (hg:pguard ops σ o=some true) (hd:o.dst=some d) (hE:feff (presE T (headB ops o.dst) (base+i) (σ.only (ok i)) o.op)=some (.val (.int .i64 (IntKind.i64.wrap z)))) (h1 : -9223372036854775808≤z) (h2:z≤9223372036854775807) (hb:σ.freeB (base+i)=true) (k:PWops P T ops base ok rest K (σ.put d (.val (.int .i64 z)))):PWops P T ops base ok ((i,o) :: rest) K σ:=
 PWops.valE hg hd hE (by rw [wrap64_id h1 h2]) hb k
end
end Go.Proofs.YtoamkpgaaanafaaGreat
