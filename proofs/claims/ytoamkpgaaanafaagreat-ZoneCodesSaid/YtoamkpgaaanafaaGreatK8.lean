/- Out of: PwP, PwQ0, Opens, AttrB, AttrD, PwQ, Row13, PwU, PwV, PwW, PwX, PwY, PwZ, PwZ2, PwT, PwX2, PwIt, PwIt2, PwIt3, PwZ3, PwZ4, PwZ6. -/
import Derived.Deep.Slices
import Derived.Lib.LaidU8
import Derived.LaidMore
import Derived.LaidLaws
import Derived.Stop.Joined
import Derived.MakeChecks
import Derived.KernelRfl
import Derived.RangeFuncCalls
import Derived.Test.YtoamkpgaaanafaaGreatK1
import Derived.Test.YtoamkpgaaanafaaGreatK2
import Derived.Test.YtoamkpgaaanafaaGreatK3
import Derived.Test.YtoamkpgaaanafaaGreatK4
import Derived.Test.YtoamkpgaaanafaaGreatK5
import Derived.Test.YtoamkpgaaanafaaGreatK6
namespace Go.Proofs.YtoamkpgaaanafaaGreat
set_option linter.unusedSimpArgs false
set_option linter.unusedVariables false
set_option linter.unnecessarySimpa false
section
open Go.RowKit
theorem sl_eq {n n' k:Nat} {cs cs' : List PV} {o:Option TypeId} (h1:n=n') (h2:cs=cs'):PV.sl n k cs o = .sl n' k cs' o:=by rw [h1,h2]
end
section
open Go.RowKit
variable {P:Program} {M:Nat} {Q:Exit→PS→Prop} {σ:PS} {T:Tab} {ops:Array Oper} {i:Nat} {o:Oper} {rest:List (Nat×Oper)} {K:PS→Prop} {base:Nat} {ok:Nat→Nat→Bool}
theorem pev_only (ok:Nat→Bool) (x:Operand):pev (σ.only ok) x=pev σ x:=by cases x<;>rfl
theorem PWops.valEq {d:Nat} {p q:PV} (hg:pguard ops σ o=some true) (hd:o.dst=some d) (hE:presE T (headB ops o.dst) (base+i) (σ.only (ok i)) o.op=some ⟨p,[],none,[]⟩) (hp:p=q) (hb:σ.freeB (base+i)=true) (k:PWops P T ops base ok rest K (σ.put d q)):PWops P T ops base ok ((i,o) :: rest) K σ:=by
 subst hp
 refine PWops.step hg hE hb ?_
 rw [hd]
 exact k
theorem PWops.bool {d:Nat} {b:Bool} (v:Bool) (hg:pguard ops σ o=some true) (hd:o.dst=some d) (hE:feff (presE T (headB ops o.dst) (base+i) (σ.only (ok i)) o.op)=some (.val (.bool b))) (hv:b=v) (hb:σ.freeB (base+i)=true) (k:PWops P T ops base ok rest K (σ.put d (.val (.bool v)))):PWops P T ops base ok ((i,o) :: rest) K σ:=by
 subst hv
 exact PWops.val hg hd hE hb k
theorem PWops.int {d:Nat} {kk:IntKind} {z:Int} (z' : Int) (hg:pguard ops σ o=some true) (hd:o.dst=some d) (hE:feff (presE T (headB ops o.dst) (base+i) (σ.only (ok i)) o.op)=some (.val (.int kk z))) (hv:z=z') (hb:σ.freeB (base+i)=true) (k:PWops P T ops base ok rest K (σ.put d (.val (.int kk z')))):PWops P T ops base ok ((i,o) :: rest) K σ:=by
 subst hv
 exact PWops.val hg hd hE hb k
theorem wrap64_id {z:Int} (h1 : -9223372036854775808≤z) (h2:z≤9223372036854775807):IntKind.i64.wrap z=z:=IntWalk.i64_in z ⟨h1,h2⟩
theorem PWops.fits {d:Nat} {z:Int} (hg:pguard ops σ o=some true) (hd:o.dst=some d) (hE:feff (presE T (headB ops o.dst) (base+i) (σ.only (ok i)) o.op)=some (.val (.int .i64 (IntKind.i64.wrap z)))) (h1 : -9223372036854775808≤z) (h2:z≤9223372036854775807) (hb:σ.freeB (base+i)=true) (k:PWops P T ops base ok rest K (σ.put d (.val (.int .i64 z)))):PWops P T ops base ok ((i,o) :: rest) K σ:=
 PWops.int z hg hd hE (wrap64_id h1 h2) hb k
def isCmp:Op→Bool
 | .binOp op _ _ _ _=>match op with
  | .eql | .neq | .lss | .leq | .gtr | .geq=>true
  |_=>false
 |_=>false
def isArith:Op→Bool
 | .binOp op _ _ _ _=>match op with
  | .add | .sub | .mul=>true
  |_=>false
 |_=>false
theorem PWops.boolK {d:Nat} {b:Bool} (v:Bool) (hk:isCmp o.op=true) (hg:pguard ops σ o=some true) (hd:o.dst=some d) (hE:feff (presE T (headB ops o.dst) (base+i) (σ.only (ok i)) o.op)=some (.val (.bool b))) (hv:b=v) (hb:σ.freeB (base+i)=true) (k:PWops P T ops base ok rest K (σ.put d (.val (.bool v)))):PWops P T ops base ok ((i,o) :: rest) K σ:=PWops.bool v hg hd hE hv hb k
theorem PWops.fitsK {d:Nat} {z:Int} (hk:isArith o.op=true) (hg:pguard ops σ o=some true) (hd:o.dst=some d) (hE:feff (presE T (headB ops o.dst) (base+i) (σ.only (ok i)) o.op)=some (.val (.int .i64 (IntKind.i64.wrap z)))) (h1 : -9223372036854775808≤z) (h2:z≤9223372036854775807) (hb:σ.freeB (base+i)=true) (k:PWops P T ops base ok rest K (σ.put d (.val (.int .i64 z)))):PWops P T ops base ok ((i,o) :: rest) K σ:=PWops.fits hg hd hE h1 h2 hb k
theorem PWops.idx {d n k j e by_:Nat} {cs zr:List PV} {own:Option TypeId} {kk:IntKind} {x ix:Operand} {t:TypeId} {ti:TyI} (hg:pguard ops σ o=some true) (hd:o.dst=some d) (hop:o.op = .indexAddr t x ix) (hx:pev σ x = .sl n k cs own) (hi:pev σ ix = .val (.int kk (j:Int))) (ht:T.at t=some ti) (hk:ti.kind = .slice e k by_ zr) (hb:σ.freeB (base+i)=true) (hj:j < n)
  (kn:PWops P T ops base ok rest K (σ.put d (.ep cs (j * k)))):PWops P T ops base ok ((i,o) :: rest) K σ:=by
 refine PWops.valEq hg hd (p:=.ep cs (j * k)) ?_ rfl hb kn
 have h1:k=k∧(0:Int)≤(j:Int)∧(j:Int) < (n:Int):=⟨rfl,by omega,by omega⟩
 simp [hop,presE,pvalA,pval,pev_only,hx,hi,ht,hk,pindexAt,h1]
theorem PWops.idx1 {d n j e by_:Nat} {cs zr:List PV} {own:Option TypeId} {kk:IntKind} {x ix:Operand} {t:TypeId} {ti:TyI} (hg:pguard ops σ o=some true) (hd:o.dst=some d) (hop:o.op = .indexAddr t x ix) (hx:pev σ x = .sl n 1 cs own) (hi:pev σ ix = .val (.int kk (j:Int))) (ht:T.at t=some ti) (hk:ti.kind = .slice e 1 by_ zr) (hb:σ.freeB (base+i)=true) (hj:j < n)
  (kn:PWops P T ops base ok rest K (σ.put d (.ep cs j))):PWops P T ops base ok ((i,o) :: rest) K σ:=
 PWops.idx hg hd hop hx hi ht hk hb hj (by rw [Nat.mul_one];exact kn)
theorem PWops.ld {d off:Nat} {cs:List PV} {c q:PV} {x:Operand} {t:TypeId} {ti:TyI} (hg:pguard ops σ o=some true) (hd:o.dst=some d) (hop:o.op = .load t x) (hx:pev σ x = .ep cs off) (ht:T.at t=some ti) (ha:ti.agg=false) (hb:σ.freeB (base+i)=true) (hc:cs[off]? = some c) (hq:fval c.bare=some q)
  (kn:PWops P T ops base ok rest K (σ.put d q)):PWops P T ops base ok ((i,o) :: rest) K σ:=by
 refine PWops.valEq hg hd (p:=c.bare) ?_ (fval_eq hq) hb kn
 simp [hop,presE,ploadO,pvalA,pval,pev_only,hx,ht,ploadAt,asVal,ha,hc]
theorem PWops.ldA {d off m:Nat} {cs row:List PV} {x:Operand} {t:TypeId} {kd:TD} {zr:List PV} {es:List SK} (hg:pguard ops σ o=some true) (hd:o.dst=some d) (hop:o.op = .load t x) (hx:pev σ x = .ep cs off) (ht:T.at t=some ⟨m,true,kd,zr,es⟩) (hb:σ.freeB (base+i)=true) (hl:off+m≤cs.length) (hr:((cs.drop off).take m).map PV.bare=row)
  (kn:PWops P T ops base ok rest K (σ.put d (.agg row))):PWops P T ops base ok ((i,o) :: rest) K σ:=by
 refine PWops.valEq hg hd (p:=.agg (((cs.drop off).take m).map PV.bare)) ?_ (by rw [hr]) hb kn
 simp [hop,presE,ploadO,pvalA,pval,pev_only,hx,ht,ploadAt,asVal,hl]
theorem PWops.app {d s n m k e by_:Nat} {cs ds zr:List PV} {own:Option TypeId} {x:Operand} {t:TypeId} {sz:Nat} {ag:Bool} {zz:List PV} {es:List SK} (hg:pguard ops σ o=some true) (hd:o.dst=some d) (hop:o.op = .call { callee:=.builtin .append,args := #[.tmp s,x],argTypes := #[t,t] }) (hs:σ.t s = .sl n k cs (some e)) (hx:pev σ x = .sl m k ds own) (ht:T.at t=some ⟨sz,ag, .slice e k by_ zr,zz,es⟩) (hb:σ.freeB (base+i)=true) (he:Nat.blt e 1000000=true)
  (h1:(n+m) * by_≤140737488355328) (h2:n+m≤140737488355328) (hone:ds.all PV.one=true) (kn:PWops P T ops base ok rest K ((σ.put s (.sl n k cs none)).put d (.sl (n+m) k (cs ++ ds) (some e)))):PWops P T ops base ok ((i,o) :: rest) K σ:=by
 refine PWops.step hg (E:=⟨.sl (n+m) k (cs ++ ds) (some e),[],some s,[]⟩) ?_ hb ?_
 ·have how:ownPV (σ.only (ok i)) (.tmp s) = .sl n k cs (some e):=hs
  simp [hop,presE,how,pev_only,hx,ht,pappend,asOwn,asSrc,h1,h2,disOf,fullB,(by simpa [Nat.blt_eq] using he:e < 1000000)]
  simpa using hone
 ·rw [hd]
  simp only [PS.app,hs,List.foldl_nil,List.foldl_cons]
  exact kn
theorem PWops.app0 {d s m k e by_:Nat} {ds zr:List PV} {own:Option TypeId} {x:Operand} {t:TypeId} {sz:Nat} {ag:Bool} {zz:List PV} {es:List SK} (hg:pguard ops σ o=some true) (hd:o.dst=some d) (hop:o.op = .call { callee:=.builtin .append,args := #[.tmp s,x],argTypes := #[t,t] }) (hs:σ.t s = .nilsl) (hx:pev σ x = .sl m k ds own) (ht:T.at t=some ⟨sz,ag, .slice e k by_ zr,zz,es⟩) (hb:σ.freeB (base+i)=true) (he:Nat.blt e 1000000=true)
  (h1:m * by_≤140737488355328) (h2:m≤140737488355328) (hone:ds.all PV.one=true) (kn:PWops P T ops base ok rest K ((σ.put s .nilsl).put d (.sl m k ds (some e)))):PWops P T ops base ok ((i,o) :: rest) K σ:=by
 refine PWops.step hg (E:=⟨.sl (0+m) k ([] ++ ds) (some e),[],some s,[]⟩) ?_ hb ?_
 ·have how:ownPV (σ.only (ok i)) (.tmp s) = .nilsl:=hs
  simp [hop,presE,how,pev_only,hx,ht,pappend,asOwn,asSrc,h1,h2,disOf,fullB,(by simpa [Nat.blt_eq] using he:e < 1000000)]
  simpa using hone
 ·rw [hd]
  simp only [PS.app,hs,Nat.zero_add,List.nil_append,List.foldl_nil,List.foldl_cons]
  exact kn
theorem PWops.slc {d n k e by_:Nat} (l h:Nat) {cs zr:List PV} {own:Option TypeId} {x:Operand} {lo hi:Option Operand} {t:TypeId} {ti:TyI} (hg:pguard ops σ o=some true) (hd:o.dst=some d) (hop:o.op = .slice t x lo hi none) (hx:pev σ x = .sl n k cs own) (ht:T.at t=some ti) (hk:ti.kind = .slice e k by_ zr) (hb:σ.freeB (base+i)=true)
  (h1:pbound n n (hi.map (pev σ))=some h) (h2:pbound 0 h (lo.map (pev σ))=some l) (kn:PWops P T ops base ok rest K (σ.put d (.sl (h - l) k ((cs.drop (l * k)).take ((h - l) * k)) none))):PWops P T ops base ok ((i,o) :: rest) K σ:=by
 refine PWops.valEq hg hd (p:=.sl (h - l) k ((cs.drop (l * k)).take ((h - l) * k)) none) ?_ rfl hb kn
 have e1:pev (σ.only (ok i))=pev σ:=funext (pev_only _)
 simp [hop,presE,pvalA,pval,e1,hx,ht,hk,pslice,h1,h2]
theorem PWops.str {d n k e by_:Nat} {zr:List PV} {own:Option TypeId} {bs:List Int} {x:Operand} {ts td:TypeId} {si di ei:TyI} (hg:pguard ops σ o=some true) (hd:o.dst=some d) (hop:o.op = .convert ts td x) (hx:pev σ x = .sl n 1 (bs.map fun b=>.val (.int .u8 b)) own) (hs:T.at ts=some si) (ht:T.at td=some di) (hk1:si.kind = .slice e k by_ zr) (hk2:di.kind = .str) (he:T.at e=some ei) (hke:ei.kind = .int .u8) (hb:σ.freeB (base+i)=true)
  (kn:PWops P T ops base ok rest K (σ.put d (.val (.string (strI bs))))):PWops P T ops base ok ((i,o) :: rest) K σ:=by
 refine PWops.valEq hg hd (p:=.val (.string (strI bs))) ?_ rfl hb kn
 simp [hop,presE,pvalA,pval,pev_only,hx,hs,ht,hk1,hk2,he,hke,pconv,pconvS,bytesOf_map]
theorem low_val (v:Value):Low (.val v)↔True:=⟨fun _=>trivial,fun _=>.val v⟩
theorem low_nilsl:Low .nilsl↔True:=⟨fun _=>trivial,fun _=>.nilsl⟩
theorem low_sl {n k:Nat} {cs:List PV} {own:Option TypeId} : Low (.sl n k cs own)↔∀c∈cs,Low c:=⟨fun h=>by cases h;assumption,fun h=>.sl n k cs own h⟩
theorem low_ep {cs:List PV} {off:Nat} : Low (.ep cs off)↔∀c∈cs,Low c:=⟨fun h=>by cases h;assumption,fun h=>.ep cs off h⟩
theorem low_agg {cs:List PV} : Low (.agg cs)↔∀c∈cs,Low c:=⟨fun h=>by cases h;assumption,fun h=>.agg cs h⟩
theorem low_tup {cs:List PV} : Low (.tup cs)↔∀c∈cs,Low c:=⟨fun h=>by cases h;assumption,fun h=>.tup cs h⟩
theorem low_fn {f:FuncId} {cs:List PV} : Low (.fn f cs)↔∀c∈cs,Low c:=⟨fun h=>by cases h;assumption,fun h=>.fn f cs h⟩
theorem low_pint (z:Int):Low (pint z)↔True:=low_val _
theorem low_pstr (z:ByteArray):Low (pstr z)↔True:=low_val _
theorem low_pbool (z:Bool):Low (pbool z)↔True:=low_val _
theorem low_pints (zs:List Int):Low (pints zs)↔True:=⟨fun _=>trivial,fun _=>.sl _ _ _ _ (fun c hc=>by obtain ⟨z,-,rfl⟩:=List.mem_map.1 hc;exact .val _)⟩
theorem low_pstrs (zs:List ByteArray):Low (pstrs zs)↔True:=⟨fun _=>trivial,fun _=>.sl _ _ _ _ (fun c hc=>by obtain ⟨z,-,rfl⟩:=List.mem_map.1 hc;exact .val _)⟩
theorem map_get {α:Type} {f:α→PV} {l:List α} {j:Nat} {x:α} (h:l[j]? = some x):(l.map f)[j]? = some (f x):=by simp [h]
theorem flatMap_get {α:Type} {f:α→List PV} {k:Nat} (hk:∀x,(f x).length=k):∀{l:List α} {j:Nat} {x:α} {m:Nat} {c:PV},l[j]? = some x→(f x)[m]? = some c→(l.flatMap f)[j * k+m]? = some c
 | [],j,x,m,c,h,_=>by simp at h
 |y :: l,0,x,m,c,h,hc=>by
  simp at h;subst h
  have hm:m < (f y).length:=(List.getElem?_eq_some_iff.1 hc).1
  rw [List.flatMap_cons,Nat.zero_mul,Nat.zero_add,List.getElem?_append_left hm];exact hc
 |y :: l,j+1,x,m,c,h,hc=>by
  simp at h
  rw [List.flatMap_cons,List.getElem?_append_right (by rw [hk,Nat.succ_mul];omega),hk,show (j+1) * k+m - k=j * k+m by rw [Nat.succ_mul];omega]
  exact flatMap_get hk h hc
theorem flatMap_len {α:Type} {f:α→List PV} {k:Nat} (hk:∀x,(f x).length=k):∀(l:List α),(l.flatMap f).length=l.length * k
 | []=>by simp
 |y :: l=>by rw [List.flatMap_cons,List.length_append,hk,flatMap_len hk l,List.length_cons,Nat.succ_mul];omega
theorem flatMap_row {α:Type} {f:α→List PV} {k:Nat} (hk:∀x,(f x).length=k):∀{l:List α} {j:Nat} {x:α},l[j]? = some x→((l.flatMap f).drop (j * k)).take k=f x
 | [],j,x,h=>by simp at h
 |y :: l,0,x,h=>by
  simp at h;subst h
  rw [List.flatMap_cons,Nat.zero_mul,List.drop_zero,List.take_append_of_le_length (by rw [hk];exact Nat.le_refl _),List.take_of_length_le (by rw [hk];exact Nat.le_refl _)]
 |y :: l,j+1,x,h=>by
  simp at h
  rw [List.flatMap_cons,show (j+1) * k=(f y).length+j * k by rw [hk,Nat.succ_mul];omega,List.drop_append]
  simp only [Nat.add_sub_cancel_left]
  rw [List.drop_eq_nil_of_le (by omega),List.nil_append]
  exact flatMap_row hk h
end
section
open Go.RowKit
def pbyte (z:Int):PV:=.val (.int .u8 z)
def pbytes (bs:List Int):PV:=.sl bs.length 1 (bs.map pbyte) none
theorem low_mapI {n k:Nat} {l:List Int} {o:Option TypeId} : Low (.sl n k (l.map pint) o):=.sl _ _ _ _ (fun c hc=>by obtain ⟨z,-,rfl⟩:=List.mem_map.1 hc;exact .val _)
theorem low_mapS {n k:Nat} {l:List ByteArray} {o:Option TypeId} : Low (.sl n k (l.map pstr) o):=.sl _ _ _ _ (fun c hc=>by obtain ⟨z,-,rfl⟩:=List.mem_map.1 hc;exact .val _)
theorem low_mapB {n k:Nat} {l:List Int} {o:Option TypeId} : Low (.sl n k (l.map pbyte) o):=.sl _ _ _ _ (fun c hc=>by obtain ⟨z,-,rfl⟩:=List.mem_map.1 hc;exact .val _)
theorem one_pint (l:List Int):(l.map pint).all PV.one=true:=by rw [List.all_map,List.all_eq_true];intro x _;rfl
theorem one_pstr (l:List ByteArray):(l.map pstr).all PV.one=true:=by rw [List.all_map,List.all_eq_true];intro x _;rfl
theorem one_pbyte (l:List Int):(l.map pbyte).all PV.one=true:=by rw [List.all_map,List.all_eq_true];intro x _;rfl
theorem low_pbyte (z:Int):Low (pbyte z)↔True:=low_val _
theorem low_pbytes (zs:List Int):Low (pbytes zs)↔True:=⟨fun _=>trivial,fun _=>.sl _ _ _ _ (fun c hc=>by obtain ⟨z,-,rfl⟩:=List.mem_map.1 hc;exact .val _)⟩
theorem PW.condT {P:Program} {M:Nat} {Q:Exit→PS→Prop} {σ:PS} {c:Operand} {x y:Code} (hc:pev σ c = .val (.bool true)) (h:PW P M x Q σ):PW P M (.cond c x y) Q σ:=PW.cond hc (fun _=>h) (fun e=>by cases e)
theorem PW.condF {P:Program} {M:Nat} {Q:Exit→PS→Prop} {σ:PS} {c:Operand} {x y:Code} (hc:pev σ c = .val (.bool false)) (h:PW P M y Q σ):PW P M (.cond c x y) Q σ:=PW.cond hc (fun e=>by cases e) (fun _=>h)
def pbytesO (zs:List Int):PV:=.sl zs.length 1 (zs.map pbyte) (some 5)
end
section
open Go.RowKit
variable {Φ:Imm} {μ:Nat→Option Nat} {w:World} (himm:∀b o u,Φ b o=some u→w.cell? ⟨b,o,none⟩=some u)
include himm
theorem post_flat {w' : World} {post:PV→Prop} {r:PV} {v:Value} (hr:Rep Φ mu0 r v) (hf:r.ownB=false) (hp:post r) (hb:Below w.heap.size w w'):CallPost Φ w post (.returned v) w':=by
 refine ⟨r,v,Φ,rfl,hp,hr,fun b o u e=>below_cell hb (himm b o u e),fun _ _ _=>rfl,hb,fun n k cs E e=>?_⟩
 rw [e] at hf;simp [PV.ownB] at hf
theorem own_rep {w' : World} {E:TypeId} {v:Value} {α:Type} {f:α→Value} {l:List α} (hplain:∀x,plainV (f x)=true) (ho:Own w.heap.size E w' v (l.map f)) (hb:Below w.heap.size w w') (hE:E < 1000000:=by decide) :
  ∃Φ' : Imm,(∀b o u,Φ' b o=some u→w'.cell? ⟨b,o,none⟩=some u)∧(∀b o,b < w.heap.size→Φ' b o=Φ b o)∧Rep Φ' mu0 (.sl l.length 1 (l.map fun x=>.val (f x)) (some E)) v∧OwnAt (fun g=>w.heap.size≤g) Φ' (fun _=>some (.tmp 0)) w' (.tmp 0) l.length 1 E v:=by
 have himm' : ∀b o u,Φ b o=some u→w'.cell? ⟨b,o,none⟩=some u:=fun b o u e=>below_cell hb (himm b o u e)
 have hfr:∀b o u,Φ b o=some u→b < w.heap.size:=fun b o u e=>World.block_lt_of_cell? _ _ (himm b o u e)
 rcases ho.2 with ⟨rfl,hn⟩|⟨g,cap,cur,rfl,hBg,hgg,hc,hm,hs,ht⟩
 ·have hl:l = []:=List.eq_nil_of_length_eq_zero (by simpa using hn)
  subst hl
  exact ⟨Φ,himm',fun _ _ _=>rfl, .sl0 _ _ _ _ (by unfold maxLen;omega), .inl ⟨rfl,rfl⟩⟩
 ·simp only [List.length_map,Nat.mul_one] at hc ht hs
  refine ⟨fun b o=>if b=g then (l.map f)[o]? else Φ b o,?_,?_,?_,?_⟩
  ·intro b o u e
   by_cases hbg:b=g
   ·subst hbg
    simp only [if_true] at e
    rw [←ht,List.getElem?_take] at e
    split at e
    ·simp only [World.cell?,hgg];simpa using e
    ·cases e
   ·simp only [if_neg hbg] at e;exact himm' b o u e
  ·intro b o hbo;simp only;rw [if_neg (by omega)]
  ·have hlen:(Value.slice (some ⟨g,0,none⟩) (l.map f).length cap) = .slice (some ⟨g,0,none⟩) l.length cap:=by simp
   rw [hlen]
   refine .sl _ _ _ _ g 0 cap (fun j=>((l.map f)[j]?).getD undef) (by simp) hc hm (fun j hj=>?_) (fun j c hcj=>?_)
   ·have hj' : j < l.length:=by simpa using hj
    simp [hj']
   ·rw [List.getElem?_map] at hcj
    obtain ⟨x,hx,rfl⟩:=Option.map_eq_some_iff.1 hcj
    simp only [List.getElem?_map,hx,Option.map_some,Option.getD_some]
    exact .val _ (hplain x)
  ·refine .inr (.inl ⟨g,cap,cur,by simp,hBg,hgg,hc,hm,by simpa using hs,rfl,hE,fun j hj=>?_⟩)
   simp only [if_true]
   rw [List.getElem?_eq_none (by simp;omega)]
theorem post_own {w' : World} {E:TypeId} {v:Value} {α:Type} {f:α→Value} {l:List α} (hplain:∀x,plainV (f x)=true) (ho:Own w.heap.size E w' v (l.map f)) (hb:Below w.heap.size w w') (hE:E < 1000000:=by decide):CallPost Φ w (· = .sl l.length 1 (l.map fun x=>.val (f x)) (some E)) (.returned v) w':=by
 obtain ⟨Φ',h1,h2,h3,h4⟩:=own_rep himm hplain ho hb hE
 refine ⟨_,v,Φ',rfl,rfl,h3,h1,h2,hb,fun n k cs E' e=>?_⟩
 cases e
 exact h4
end
section
open Go.RowKit
theorem pcalls1 {P:Program} {f:FuncId} {p:PV} {post:PV→Prop} (hc:callB P f=true) (h:∀(Φ:Imm) (μ:Nat→Option Nat) (w:World) (v:Value),(∀b o u,Φ b o=some u→w.cell? ⟨b,o,none⟩=some u)→Rep Φ μ p v→Calls P f #[v] w (CallPost Φ w post)):PCalls P f [p] post:=by
 refine ⟨hc,fun Φ μ w vs himm hgl hr=>?_⟩
 match vs,hr with
 | [v],hr=>exact h Φ μ w v himm (hr.2 0 _ _ rfl rfl)
 | [],hr=>exact absurd hr.1 (by simp)
 |_ :: _ :: _,hr=>exact absurd hr.1 (by simp)
end
section
open Go.ChangeShapes Go.WideShapes Go.ChangeAt Go.RowKit
def immW (W:World):Imm:=fun b o=>W.cell? ⟨b,o,none⟩
theorem RepL.append {Φ:Imm} {μ:Nat→Option Nat} {cs ds:List PV} {us vs:List Value} (h:RepL Φ μ cs us) (k:RepL Φ μ ds vs):RepL Φ μ (cs ++ ds) (us ++ vs):=by
 refine ⟨by simp [h.1,k.1],fun j c u h1 h2=>?_⟩
 by_cases hj:j < cs.length
 ·rw [List.getElem?_append_left hj] at h1
  rw [List.getElem?_append_left (by rw [h.1];exact hj)] at h2
  exact h.2 j c u h1 h2
 ·rw [List.getElem?_append_right (by omega)] at h1
  rw [List.getElem?_append_right (by rw [h.1];omega),h.1] at h2
  exact k.2 _ c u h1 h2
def Opens (P:Program) (t:TypeId) {α:Type} (en:α→List PV) (ok:α→Prop):Prop:=
 ∀(H:Type) (enc:TypeId×Value→H) (W:World) (fuel:Nat) (cs:List Value) (d:DataW H) (pl:List MemPlace),
  DataW.trod enc P W 0 (fun _=>true) true fuel t cs=some (d,pl)→(∀n∈d.weights P t,n≤reachBytes)→∃y:α,ok y∧RepL (immW W) mu0 (en y) cs
end
section
open Go.ChangeShapes Go.WideShapes Go.ChangeAt Go.RowKit
variable {P:Program} {t e:TypeId}
theorem Opens.map {α β:Type} {en:α→List PV} {ok:α→Prop} (h:Opens P t en ok) (g:α→β) {en' : β→List PV} {ok' : β→Prop} (hen:∀a,ok a→en' (g a)=en a) (hok:∀a,ok a→ok' (g a)):Opens P t en' ok':=by
 intro H enc W fuel cs d pl h1 h2
 obtain ⟨y,k1,k2⟩:=h H enc W fuel cs d pl h1 h2
 exact ⟨g y,hok y k1,by rw [hen y k1];exact k2⟩
theorem opens_int {k:IntKind} (ht:P.underlying t=some (.int k)):Opens P t (fun z:Int => [.val (.int k z)]) (fun z=>(Lit.int k z).wf=true):=by
 intro H enc W fuel cs d pl h hw
 obtain ⟨n,rfl,hx,hwf⟩:=DataW.trod_int ht h
 exact ⟨n,hwf,RepL.cons (.val _ rfl) RepL.nil⟩
theorem opens_str (ht:P.underlying t=some .string):Opens P t (fun b:ByteArray => [.val (.string b)]) (fun b=>b.size≤reachBytes):=by
 intro H enc W fuel cs d pl h hw
 obtain ⟨s,rfl,hx,hs⟩:=DataW.trod_string ht h
 refine ⟨s,?_,RepL.cons (.val _ rfl) RepL.nil⟩
 cases hx
 have:=hw s.data.toList.length (by simp [DataW.weights])
 simpa using this
theorem weights_mem {H:Type} {e:TypeId} : ∀{l:List (DataW H)} {d:DataW H},d∈l→∀n∈d.weights P e,n∈DataW.weightsAll P e l
 |x :: l,d,h,n,hn=>by
  rw [DataW.weightsAll,List.mem_append]
  rcases List.mem_cons.1 h with rfl|h
  ·exact .inl hn
  ·exact .inr (weights_mem h n hn)
theorem open_elems {α:Type} {en:α→List PV} {ok:α→Prop} {k b:Nat} (ht:P.underlying t=some (.slice e)) (hc:P.cellsOf e=k) (hk:0 < k) (hb:P.bytesOf e=b) (hlen:∀x,ok x→(en x).length=k)
  {H:Type} {enc:TypeId×Value→H} {W:World} {fuel:Nat} {cs:List Value} {d:DataW H} {pl:List MemPlace} (he:∀(n:Nat) (us:List Value) (D:DataW H) (Pl:List MemPlace),(∃l r,d = .slice l r∧D∈l)→DataW.trod enc P W 0 (fun _=>true) true n e us=some (D,Pl)→(∀x∈D.weights P e,x≤reachBytes)→∃y:α,ok y∧RepL (immW W) mu0 (en y) us)
  (h:DataW.trod enc P W 0 (fun _=>true) true fuel t cs=some (d,pl)) (hw:∀n∈d.weights P t,n≤reachBytes):∃xs:List α,((∀x∈xs,ok x)∧xs.length * b≤reachBytes)∧RepL (immW W) mu0 [.sl xs.length k (xs.flatMap en) none] cs:=by
 rcases Deep.open_slice ht h with ⟨rfl,hx⟩|⟨a,len,cap,m,n,D,Pl,rfl,-,hl,hm,hmm,hx,hel⟩
 ·exact ⟨[],⟨by simp,by simp⟩,RepL.cons (.sl0 _ _ _ _ (by unfold maxLen;omega)) RepL.nil⟩
 ·simp only [if_true] at hmm
  subst hmm
  cases hx
  have hall:∀i,i < len→∃y:α,ok y∧∃us,W.cells? 0 (a.add (i * P.cellsOf e)) (P.cellsOf e)=some us∧RepL (immW W) mu0 (en y) us:=by
   intro i hi
   obtain ⟨us,h1,h2⟩:=hel i (by omega)
   obtain ⟨y,k1,k2⟩:=he n us (D i) (Pl i) ⟨_,_,rfl,List.mem_map.2 ⟨i,by simpa using hi,rfl⟩⟩ h2 (fun x hx=>by
    refine hw x ?_
    simp only [DataW.weights,ht,List.mem_cons,List.mem_append]
    exact .inr (.inl (weights_mem (List.mem_map.2 ⟨i,by simpa using hi,rfl⟩) x hx)))
   exact ⟨y,k1,us,h1,k2⟩
  have:∃xs:List α,xs.length=len∧∀i x,xs[i]? = some x→ok x∧∃us,W.cells? 0 (a.add (i * P.cellsOf e)) (P.cellsOf e)=some us∧RepL (immW W) mu0 (en x) us:=by
   have key:∀j,j≤len→∃xs:List α,xs.length=j∧∀i x,xs[i]? = some x→ok x∧∃us,W.cells? 0 (a.add (i * P.cellsOf e)) (P.cellsOf e)=some us∧RepL (immW W) mu0 (en x) us:=by
    intro j
    induction j with
    |zero=>exact fun _=>⟨[],rfl,fun i x hx=>by simp at hx⟩
    |succ j ih=>
     intro hj
     obtain ⟨xs,h1,h2⟩:=ih (by omega)
     obtain ⟨y,k1,k2⟩:=hall j (by omega)
     refine ⟨xs ++ [y],by simp [h1],fun i x hx=>?_⟩
     by_cases hi:i < j
     ·rw [List.getElem?_append_left (by omega)] at hx;exact h2 i x hx
     ·rw [List.getElem?_append_right (by omega)] at hx
      have h0:i - xs.length=0:=by
       have:=(List.getElem?_eq_some_iff.1 hx).1
       simp at this;omega
      rw [h0] at hx;simp at hx;subst hx
      obtain rfl:i=j:=by omega
      exact ⟨k1,k2⟩
   exact key len (Nat.le_refl _)
  obtain ⟨xs,hxl,hxs⟩:=this
  refine ⟨xs,⟨fun x hx=>?_,?_⟩,RepL.cons ?_ RepL.nil⟩
  ·obtain ⟨i,hi⟩:=List.getElem?_of_mem hx
   exact (hxs i x hi).1
  ·have hw1:=hw (((List.range len).map D).length * P.bytesOf e+((List.range (m - len)).map fun j=>D (len+j)).length * P.bytesOf e) (by
    simp only [DataW.weights,ht,List.mem_cons,List.mem_append,Nat.add_mul]
    exact .inl trivial)
   simp only [List.length_map,List.length_range,hb] at hw1
   rw [hxl];omega
  ·by_cases h0:len=0
   ·subst h0
    obtain rfl:xs = []:=List.eq_nil_of_length_eq_zero hxl
    exact .sl0 _ _ _ _ hm
   ·obtain ⟨bl,off,spot⟩:=a
    have hfl:(xs.flatMap en).length=len * k:=by
     rw [←hxl]
     have:∀(l:List α),(∀x∈l,(en x).length=k)→(l.flatMap en).length=l.length * k:=by
      intro l
      induction l with
      |nil=>simp
      |cons x l ih=>intro h;rw [List.flatMap_cons,List.length_append,h x (by simp),ih (fun y hy=>h y (by simp [hy])),List.length_cons,Nat.succ_mul];omega
     exact this xs (fun x hx=>by
      obtain ⟨i,hi⟩:=List.getElem?_of_mem hx
      exact hlen x (hxs i x hi).1)
    have hcell:∀i r,i < len→r < k→∃x u,xs[i]? = some x∧W.cell? (Addr.add (Addr.add ⟨bl,off,spot⟩ (i * k)) r)=some u∧∀c,(en x)[r]? = some c→Rep (immW W) mu0 c u:=by
     intro i r hi hr
     have hix:i < xs.length:=by omega
     obtain ⟨k1,us,k2,k3⟩:=hxs i xs[i] (by simp [hix])
     obtain ⟨-,q2,q3⟩:=World.cells?_some k2
     rw [hc] at q2 q3
     have hru:r < us.length:=by omega
     refine ⟨xs[i],us[r],by simp [hix],by rw [q3 r hr];simp [hru],fun c hcc=>k3.2 r c _ hcc (by simp [hru])⟩
    have hspot:spot=none:=by
     obtain ⟨x,u,-,h2,-⟩:=hcell 0 0 (by omega) hk
     have:=World.cell?_spot h2
     simpa [Addr.add] using this
    subst hspot
    rw [←hxl]
    refine .sl xs.length k _ none bl off m (fun j=>(W.cell? ⟨bl,off+j,none⟩).getD undef) (by rw [hfl,hxl]) (by omega) hm (fun j hj=>?_) (fun j c hj=>?_)
    ·rw [hfl] at hj
     have hq:j / k < len:=by rw [Nat.div_lt_iff_lt_mul hk];exact hj
     obtain ⟨x,u,-,h2,-⟩:=hcell (j / k) (j % k) hq (Nat.mod_lt _ hk)
     rw [Addr.add_lit,Addr.add_lit,Nat.add_assoc,Nat.mul_comm,Nat.div_add_mod] at h2
     simp only [immW,h2,Option.getD_some]
    ·have hjl:=(List.getElem?_eq_some_iff.1 hj).1
     rw [hfl] at hjl
     have hq:j / k < len:=by rw [Nat.div_lt_iff_lt_mul hk];exact hjl
     obtain ⟨x,u,h1,h2,h3⟩:=hcell (j / k) (j % k) hq (Nat.mod_lt _ hk)
     rw [Addr.add_lit,Addr.add_lit,Nat.add_assoc,Nat.mul_comm,Nat.div_add_mod] at h2
     rw [h2,Option.getD_some]
     refine h3 c ?_
     have hxk:∀x∈xs,(en x).length=k:=fun x hx=>by
      obtain ⟨i,hi⟩:=List.getElem?_of_mem hx
      exact hlen x (hxs i x hi).1
     have gen:∀(l:List α) (i r:Nat) (x:α),(∀x∈l,(en x).length=k)→l[i]? = some x→r < k→(l.flatMap en)[i * k+r]? = (en x)[r]?:=by
      intro l
      induction l with
      |nil=>intro i r x _ h;simp at h
      |cons y l ih=>
       intro i r x hl h hr
       rw [List.flatMap_cons]
       cases i with
       |zero=>
        simp at h;subst h
        rw [Nat.zero_mul,Nat.zero_add,List.getElem?_append_left (by rw [hl y (by simp)];exact hr)]
       |succ i=>
        simp at h
        have:=ih i r x (fun z hz=>hl z (by simp [hz])) h hr
        rw [List.getElem?_append_right (by rw [hl y (by simp),Nat.succ_mul];omega),hl y (by simp),←this]
        congr 1
        rw [Nat.succ_mul];omega
     rw [←gen xs (j / k) (j % k) x hxk h1 (Nat.mod_lt _ hk),Nat.mul_comm,Nat.div_add_mod]
     exact hj
theorem opens_slice {α:Type} {en:α→List PV} {ok:α→Prop} {k b:Nat} (ht:P.underlying t=some (.slice e)) (hc:P.cellsOf e=k) (hk:0 < k) (hb:P.bytesOf e=b) (he:Opens P e en ok) (hlen:∀x,ok x→(en x).length=k) :
  Opens P t (fun xs:List α => [.sl xs.length k (xs.flatMap en) none]) (fun xs=>(∀x∈xs,ok x)∧xs.length * b≤reachBytes):=
 fun H enc W _ _ _ _ h hw=>open_elems ht hc hk hb hlen (fun n us D Pl _ h1 h2=>he H enc W n us D Pl h1 h2) h hw
def OpensFs (P:Program) (fs:List Field) (o m:Nat) {α:Type} (en:α→List PV) (ok:α→Prop):Prop:=
 ∀(H:Type) (enc:TypeId×Value→H) (W:World) (n:Nat) (cs:List Value) (xs:List (DataW H×List MemPlace)),xs.length=fs.length→(∀(i:Nat) (f:Field),fs[i]? = some f→DataW.trod enc P W 0 (fun _=>true) true n f.type ((cs.drop f.offset).take (P.cellsOf f.type))=xs[i]?) →
  (∀k∈DataW.weightsEach P (fs.map (·.type)) (xs.map (·.1)),k≤reachBytes)→∃y:α,ok y∧RepL (immW W) mu0 (en y) ((cs.drop o).take m)
theorem opensFs_nil {o:Nat} : OpensFs P [] o 0 (fun _:Unit => []) (fun _=>True):=by
 intro H enc W n cs xs _ _ _
 exact ⟨(),trivial,by simpa using RepL.nil⟩
theorem opensFs_cons {f:Field} {fs:List Field} {o k m:Nat} {α β:Type} {en1:α→List PV} {ok1:α→Prop} {en2:β→List PV} {ok2:β→Prop} (ho:f.offset=o) (hk:P.cellsOf f.type=k) (h1:Opens P f.type en1 ok1) (h2:OpensFs P fs (o+k) m en2 ok2) :
  OpensFs P (f :: fs) o (k+m) (fun p:α×β=>en1 p.1 ++ en2 p.2) (fun p=>ok1 p.1∧ok2 p.2):=by
 intro H enc W n cs xs hl hx hw
 cases xs with
 |nil=>simp at hl
 |cons x xs=>
  have e0:=hx 0 f rfl
  rw [ho,hk] at e0
  obtain ⟨y,k1,k2⟩:=h1 H enc W n _ x.1 x.2 e0 (fun z hz=>hw z (by simp only [List.map_cons,DataW.weightsEach,List.mem_append];exact .inl hz))
  obtain ⟨z,k3,k4⟩:=h2 H enc W n cs xs (by simpa using hl) (fun i g hg=>by have:=hx (i+1) g (by simpa using hg);simpa using this) (fun z hz=>hw z (by simp only [List.map_cons,DataW.weightsEach,List.mem_append];exact .inr hz))
  refine ⟨(y,z),⟨k1,k3⟩,?_⟩
  rw [List.take_add,List.drop_drop]
  exact k2.append k4
theorem opensFs_1 {f:Field} {fs:List Field} {o m:Nat} {α β:Type} {en1:α→List PV} {ok1:α→Prop} {en2:β→List PV} {ok2:β→Prop} (ho:f.offset=o) (h1:Opens P f.type en1 ok1) (hk:P.cellsOf f.type=1) (h2:OpensFs P fs (o+1) m en2 ok2) :
  OpensFs P (f :: fs) o (m+1) (fun p:α×β=>en1 p.1 ++ en2 p.2) (fun p=>ok1 p.1∧ok2 p.2):=by
 rw [Nat.add_comm m 1];exact opensFs_cons ho hk h1 h2
theorem opens_struct {fs:Array Field} {m:Nat} {α:Type} {en:α→List PV} {ok:α→Prop} (ht:P.underlying t=some (.struct fs)) (hf:OpensFs P fs.toList 0 m en ok) (hc:P.cellsOf t=m):Opens P t en ok:=by
 intro H enc W fuel cs d pl h hw
 obtain ⟨xs,n,rfl,hx,h3,h4,h5⟩:=DataW.trod_struct ht h
 cases hx
 obtain ⟨y,k1,k2⟩:=hf H enc W n cs xs (by simpa using h4) (fun i f hf=>h5 i f (by simpa using hf)) (fun z hz=>hw z (by simpa only [DataW.weights,ht] using hz))
 refine ⟨y,k1,?_⟩
 rwa [List.drop_zero,List.take_of_length_le (by omega)] at k2
def ArgOpens (P:Program) (t:TypeId) {α:Type} (pe:α→PV) (ok:α→Prop):Prop:=
 ∀(H:Type) (enc:TypeId×Value→H) (W:World) (base:Nat) (v:Value) (d:DataW H) (pl:List MemPlace),Value.okWide P W .any base t v→DataW.Trod enc P W 0 (fun _=>true) true t v d pl→(∀n∈d.weights P t,n≤reachBytes)→∃y:α,ok y∧Rep (immW W) mu0 (pe y) v
theorem repL_one1 {Φ:Imm} {μ:Nat→Option Nat} {p:PV} {v:Value} (h:RepL Φ μ [p] [v]):Rep Φ μ p v:=h.2 0 p v rfl rfl
theorem arg_slice {α:Type} {pe:α→PV} {ok:α→Prop} (ht:P.underlying t=some (.slice e)) (h0:Opens P t (fun x => [pe x]) ok):ArgOpens P t pe ok:=by
 intro H enc W base v d pl hv ⟨fuel,h⟩ hw
 obtain ⟨a,l,c,rfl⟩:=okWide_slice ht hv
 obtain ⟨y,k1,k2⟩:=h0 H enc W fuel _ d pl h hw
 exact ⟨y,k1,repL_one1 k2⟩
theorem arg_struct {fs:Array Field} {α:Type} {en:α→List PV} {ok:α→Prop} (ht:P.underlying t=some (.struct fs)) (h0:Opens P t en ok):ArgOpens P t (fun x=>.agg (en x)) ok:=by
 intro H enc W base v d pl hv ⟨fuel,h⟩ hw
 obtain ⟨cs,rfl,-⟩:=okWide_struct ht hv
 obtain ⟨y,k1,k2⟩:=h0 H enc W fuel _ d pl h hw
 refine ⟨y,k1,?_⟩
 have:=k2.agg
 simpa [Value.cells] using this
theorem ArgOpens.map {α β:Type} {pe:α→PV} {ok:α→Prop} (h:ArgOpens P t pe ok) (g:α→β) {pe' : β→PV} {ok' : β→Prop} (hen:∀a,ok a→pe' (g a)=pe a) (hok:∀a,ok a→ok' (g a)):ArgOpens P t pe' ok':=by
 intro H enc W base v d pl h0 h1 h2
 obtain ⟨y,k1,k2⟩:=h H enc W base v d pl h0 h1 h2
 exact ⟨g y,hok y k1,by rw [hen y k1];exact k2⟩
def ArgsOpen (P:Program) (ts:List TypeId) {α:Type} (en:α→List PV) (ok:α→Prop):Prop:=
 ∀(H:Type) (enc:TypeId×Value→H) (W:World) (base:Nat) (vs:List Value) (ds:List (DataW H)) (pl:List MemPlace),(∀(j:Nat) t v,ts[j]? = some t→vs[j]? = some v→Value.okWide P W .any base t v)→DataW.TrodAll enc P W 0 (fun _=>true) true ts vs ds pl →
  (∀n∈DataW.weightsEach P ts ds,n≤reachBytes)→ds.length=ts.length∧∃y:α,ok y∧RepL (immW W) mu0 (en y) vs
theorem argsOpen_nil:ArgsOpen P [] (fun _:Unit => []) (fun _=>True):=by
 intro H enc W base vs ds pl _ h _
 obtain ⟨rfl,rfl,rfl⟩:=trodAll_nil h
 exact ⟨rfl,(),trivial,RepL.nil⟩
theorem argsOpen_cons {ts:List TypeId} {α β:Type} {pe:α→PV} {ok1:α→Prop} {en:β→List PV} {ok2:β→Prop} (h1:ArgOpens P t pe ok1) (h2:ArgsOpen P ts en ok2):ArgsOpen P (t :: ts) (fun p:α×β=>pe p.1 :: en p.2) (fun p=>ok1 p.1∧ok2 p.2):=by
 intro H enc W base vs ds pl hv h hw
 match vs,ds,h with
 |v :: vs,d :: ds,h=>
  obtain ⟨p,q,g1,g2,-⟩:=h
  obtain ⟨y,k1,k2⟩:=h1 H enc W base v d p (hv 0 t v rfl rfl) g1 (fun z hz=>hw z (by simp only [DataW.weightsEach,List.mem_append];exact .inl hz))
  obtain ⟨hl,z,k3,k4⟩:=h2 H enc W base vs ds q (fun j t v e1 e2=>hv (j+1) t v (by simpa using e1) (by simpa using e2)) g2 (fun z hz=>hw z (by simp only [DataW.weightsEach,List.mem_append];exact .inr hz))
  exact ⟨by simp [hl],(y,z),⟨k1,k3⟩,RepL.cons k2 k4⟩
 | [],[],h=>simp [DataW.TrodAll] at h
 | [],_ :: _,h=>simp [DataW.TrodAll] at h
 |_ :: _,[],h=>simp [DataW.TrodAll] at h
end
section
open Go.ChangeShapes Go.WideShapes Go.ChangeAt Go.RowKit
set_option maxRecDepth 100000 in
theorem law_lifted {f:FuncId} {fn:Func} {s:ChangeSpec} {conds:List PathCond} {tb:TypeId} {α:Type} {en:α→List PV} {ok:α→Prop} (os:Os) (started:os.Started) (H:Type) (enc:TypeId×Value→H) (hfn:Tryz.checked.prog.funcs[f]? = some fn) (noInit:Tryz.checked.prog.inits.idxOf? f=none)
  (witness:∃(w:World) (tape:Tape) (i:Input),w.os=os∧(w.forCall tape i).Shaped Tryz.checked.prog∧i.vars = []∧Input.okWide Tryz.checked.prog (w.forCall tape i) .any w.heap.size f i ∧
   s.pre6 enc Tryz.checked.prog fn conds false (w.forCall tape i).memory i.args∧({} : Assume).holds Tryz.checked.prog (lone (Frame.enter Tryz.checked.prog f i.args .normal) [] (w.forCall tape i)))
  (htb:Tryz.prog.underlying tb=some .bool) (hres:fn.resultTypes = #[tb]) (hvars:s.vars = []) (hread:fn.params.toList.all (fun t=>Tryz.prog.readableRec t && decide (t < Tryz.prog.types.size))=true)
  (hspec:∀ds:List (DataW H),ds.length=fn.params.size→(s.fn H (ds ++ [])).results = [.lit (.bool true)]∧(s.fn H (ds ++ [])).args=ds∧(s.fn H (ds ++ [])).vars = [])
  (hargs:ArgsOpen Tryz.prog fn.params.toList en ok) (hc:∀y,ok y→PCalls Tryz.prog f (en y) (· = pbool true)) (hgt:globTab = []:=by rfl) :
  ReturnsInHanded {} Tryz.checked os f .any (s.pre6 enc Tryz.prog fn conds false) (s.post enc Tryz.prog fn false true false false):=by
 refine returnsInHanded_of_change_sized (C:=Tryz.checked) own started noInit hfn witness ?_
 intro W base args ds gs before hval0 hW _ hsz _
 have hval:∀(j:Nat) t v,fn.params[j]? = some t→args[j]? = some v→Value.okWide Tryz.prog W .any base t v:=hval0
 have hW':=hW
 obtain ⟨p,q,hA,hV,rfl,_,_⟩:=hW
 rw [hvars] at hV
 obtain ⟨rfl,rfl⟩:=trodVars_none hV
 have hvt:s.plain.varTypes Tryz.prog = []:=by simp [ChangeSpec.plain,DataSpec.varTypes,hvars]
 rw [show s.plain.varTypes Tryz.checked.prog = [] from hvt,List.append_nil,List.append_nil,List.all_eq_true] at hsz
 obtain ⟨hl,y,hy,hr⟩:=hargs H enc W base args.toList ds p (fun j t v h1 h2=>hval j t v (by simpa using h1) (by simpa using h2)) hA (fun n hn=>of_decide_eq_true (hsz n hn))
 obtain ⟨s1,s2,s3⟩:=hspec ds (by simpa using hl)
 have hcall:=(hc y hy).2 (immW W) mu0 W args.toList (fun b o u h=>h) (fun x hx=>by rw [hgt] at hx;cases hx) hr
 rw [Array.toArray_toList] at hcall
 refine hcall.mono ?_
 rintro e W' ⟨r,v,Φ',rfl,rfl,hrep,-,-,hb,-⟩
 obtain ⟨rfl,-⟩:=hrep.val_inv
 exact ⟨_,rfl,post_law laidOut htb hres hvars hread hW' s1 s2 s3 hb⟩
end
section
open Go.RowKit
theorem byteAt (s:ByteArray) (k:Nat) (h:k < s.size):s.data.toList[k]? = some (s[k]'h):=by
 rw [List.getElem?_eq_getElem (by simpa using h)];rfl
def okC (k:Nat) (c:Int):Bool:=lowI c || (!(k == 0) && resI c)
theorem nameGo_step (s:ByteArray) (k:Nat) (h:k < s.size):nameGo (k == 0) (s.data.toList.drop k)=(okC k ((s[k]'h).toNat:Int) && nameGo (k+1 == 0) (s.data.toList.drop (k+1))):=
 nameGo_drop _ _ _ (byteAt s k h)
theorem lit_reserved (w:World):Strs (w.alloc (.cells #[Value.string ⟨#[97,108,108]⟩,Value.string ⟨#[97,110,100]⟩,Value.string ⟨#[104,97,115]⟩,Value.string ⟨#[105,110]⟩,Value.string ⟨#[110,111,116]⟩,Value.string ⟨#[111,114]⟩] 9)) (.slice (some ⟨w.heap.size,0,none⟩) 6 6) reserved:=
 (Own.lit w (reserved.map Value.string) 9 w.heap.size (Nat.le_refl _) (by simp [maxLen,reserved])).rd
theorem below_iter (w:World) (s:ByteArray) (k:Nat):Below w.heap.size w (w.iter s k):=below_alloc _ _
set_option maxRecDepth 100000 in
set_option maxHeartbeats 2000000 in
theorem attrName (s : ByteArray) (w : World) (hs : s.size ≤ 1000000000) :
    Calls Tryz.prog 214 #[.string s] w (RetB w (nameB s)) := by
  go_enter Tryz.func214, Tryz.ntmps214
  go_wp2
  go_loopw [3, 4] (fun _ _ wr => ∃ k : Nat, k ≤ s.size ∧ wr = w.iter s k ∧ Hid (nameGo true s.data.toList = nameGo (k == 0) (s.data.toList.drop k))) (fun _ _ wr => s.size - wr.iterPos w.heap.size)
  case atStart => exact ⟨0, by omega, rfl, rfl⟩
  case round =>
    obtain ⟨k, hk, rfl, hh⟩ := hrel
    by_cases hlt : k < s.size
    · have H : Hid (_ = _) := nameGo_step s k hlt
      have bad : Hid (okC k ((s[k]'hlt).toNat : Int) = false → nameB s = false) := by
        intro h; rw [nameB, hh.out, H.out, h]; rfl
      have good : Hid (okC k ((s[k]'hlt).toNat : Int) = true → nameGo true s.data.toList = nameGo (k + 1 == 0) (s.data.toList.drop (k+1))) := by
        intro h; rw [hh.out, H.out, h]; rfl
      clear H hh
      have kk : ((k : Int) == 0) = (k == 0) := by rw [Bool.eq_iff_iff]; simp
      have KK := Lib.hid kk
      clear kk
      by_cases h128 : (s[k]'hlt).toNat < 128
      · have hnx := fun ty => run_next_ascii (P := Tryz.prog) w s k ty hlt h128
        cases ok : okC k ((s[k]'hlt).toNat : Int) <;> cases K0 : (k == 0) <;> cases T1 : decide (((s[k]'hlt).toNat : Int) < 97) <;> cases T2 : decide (122 < ((s[k]'hlt).toNat : Int)) <;> cases T3 : decide (((s[k]'hlt).toNat : Int) < 48) <;>
          cases T4 : decide (57 < ((s[k]'hlt).toNat : Int)) <;> cases T5 : (((s[k]'hlt).toNat : Int) != 95)
        all_goals first
          | (exfalso; simp only [decide_eq_true_eq, decide_eq_false_iff_not, bne_iff_ne, bne_eq_false_iff_eq] at T1 T2 T3 T4 T5; omega)
          | (exfalso
             simp only [decide_eq_true_eq, decide_eq_false_iff_not, bne_iff_ne, bne_eq_false_iff_eq] at T1 T2 T3 T4 T5
             simp [okC, lowI, resI, K0] at ok
             omega)
          | skip
        all_goals
          have KI := KK.out
          rw [K0] at KI
          have OK := Lib.hid ok
          clear ok K0
          go_wp2
          first
            | (go_ret; refine RetB.mk (bad.out OK.out).symm (below_iter _ _ _))
            | (go_roundw
               case rel => exact ⟨k + 1, by omega, rfl, good.out OK.out⟩
               case measure => simp; omega)
      · have hnx := fun ty => run_next_any (P := Tryz.prog) w s k ty hlt
        have hd := (decode_high s k hlt (by omega)).1
        have OK : Hid (okC k ((s[k]'hlt).toNat : Int) = false) := by
          simp [Hid, okC, lowI, resI]
          have := (s[k]'hlt).toNat_lt
          omega
        generalize Utf8.decode s k = dd at hnx hd
        obtain ⟨r, d⟩ := dd
        simp only at hnx hd
        have T1 : decide ((r : Int) < 97) = false := by simp; omega
        have T2 : decide (122 < (r : Int)) = true := by simp; omega
        have T3 : decide ((r : Int) < 48) = false := by simp; omega
        have T4 : decide (57 < (r : Int)) = true := by simp; omega
        have T5 : ((r : Int) != 95) = true := by simp; omega
        cases K0 : (k == 0)
        all_goals
          have KI := KK.out
          rw [K0] at KI
          clear K0
          go_wp2
          go_ret
          exact RetB.mk (bad.out OK.out).symm (below_iter _ _ _)
    · have HE : Hid (nameGo true s.data.toList = true) := by rw [Hid, hh.out, nameGo_end _ _ _ (by simp; omega)]
      have hnx := fun ty => run_next_end (P := Tryz.prog) w s k ty hlt
      clear hh
      by_cases h1 : 1 ≤ s.size
      · by_cases h2 : s.size ≤ 40
        · have h1' : decide ((1 : Int) ≤ (s.size : Int)) = true := by simp; omega
          have h2' : decide ((s.size : Int) ≤ 40) = true := by simp; omega
          have HN : Hid (nameB s = !hasB reserved s) := by rw [Hid, nameB, HE.out]; simp [h1, h2]
          go_wp2_with (go_at_call 73; refine (slicesContainsS _ reserved s _ (lit_reserved (w.iter s k)) (by decide)).mono ?_; rintro e w' ⟨rfl, rfl⟩)
          go_ret
          exact RetB.mk HN.out.symm ((below_iter w s k).trans ((below_alloc _ _).mono (below_iter w s k).size))
        · have h2' : decide ((s.size : Int) ≤ 40) = false := by simp; omega
          have HN : Hid (nameB s = false) := by rw [Hid, nameB, HE.out]; simp [h2]
          go_wp2
          go_ret
          exact RetB.mk HN.out.symm (below_iter _ _ _)
      · have h1' : decide ((1 : Int) ≤ (s.size : Int)) = false := by simp; omega
        have HN : Hid (nameB s = false) := by rw [Hid, nameB, HE.out]; simp [h1]
        go_wp2
        go_ret
        exact RetB.mk HN.out.symm (below_iter _ _ _)
def SmallD (d:PDef):Prop:=d.name.size≤1000∧d.words.length≤1000∧∀s∈d.words,s.size≤1000
theorem def1 (g:Nat) (d:PDef) (wv:Value) (w:World) (hd:DefAt w g 0 d wv) (hs:d.name.size≤1000):Calls Tryz.prog 213 #[.pointer (some ⟨g,0,none⟩)] w (RetB w (!nameB d.name)):=by
 obtain ⟨c0,c1,c2,c3,c4⟩:=hd
 go_enter Tryz.func213,Tryz.ntmps213
 go_wp2_with (go_at_call 214;refine (attrName _ _ (by omega)).mono ?_;rintro e w' ⟨rfl,hb⟩)
 go_ret
 exact RetB.mk rfl hb
theorem def2 (g h:Nat) (d:PDef) (wv:Value) (bf:ByteArray) (w:World) (hd:DefAt w g 0 d wv) (c5:w.cell? ⟨h,0,none⟩=some (.string bf)) :
  Calls Tryz.prog 215 #[.pointer (some ⟨g,0,none⟩), .pointer (some ⟨h,0,none⟩)] w (RetB w (leqB d.name bf)):=by
 obtain ⟨c0,c1,c2,c3,c4⟩:=hd
 go_enter Tryz.func215,Tryz.ntmps215
 go_wp2
 go_ret
 exact RetB.mk rfl (Below.refl _ _)
def kindBad (d:PDef):Bool:=d.kind != 1 && d.kind != 2
theorem def3 (g:Nat) (d:PDef) (wv:Value) (w:World) (hd:DefAt w g 0 d wv):Calls Tryz.prog 216 #[.pointer (some ⟨g,0,none⟩)] w (RetB w (kindBad d)):=by
 obtain ⟨c0,c1,c2,c3,c4⟩:=hd
 cases e:d.kind != 1
 all_goals
  go_enter Tryz.func216,Tryz.ntmps216
  go_wp2
  go_ret
  exact RetB.mk (by simp [kindBad,e]) (Below.refl _ _)
def rangeBad (d:PDef):Bool:=decide (d.lo < -1099511627776) || (decide (1099511627776 < d.hi) || decide (d.hi < d.lo))
theorem def4 (g:Nat) (d:PDef) (wv:Value) (w:World) (hd:DefAt w g 0 d wv):Calls Tryz.prog 217 #[.pointer (some ⟨g,0,none⟩)] w (RetB w (rangeBad d)):=by
 obtain ⟨c0,c1,c2,c3,c4⟩:=hd
 cases e:decide (d.lo < -1099511627776)<;>cases e2:decide (1099511627776 < d.hi)
 all_goals
  go_enter Tryz.func217,Tryz.ntmps217
  go_wp2
  go_ret
  exact RetB.mk (by simp [rangeBad,e,e2]) (Below.refl _ _)
theorem def5 (g:Nat) (d:PDef) (wv:Value) (w:World) (hd:DefAt w g 0 d wv) (hs:Strs w wv d.words) (hl:d.words.length≤1000):Calls Tryz.prog 218 #[.pointer (some ⟨g,0,none⟩)] w (RetB w (decide (0 < d.words.length))):=by
 obtain ⟨c0,c1,c2,c3,c4⟩:=hd
 obtain ⟨a,cap,b,off,rfl,-⟩:=hs.open
 go_enter Tryz.func218,Tryz.ntmps218
 go_wp2
 go_ret
 exact RetB.mk (by first|rfl|simp) (Below.refl _ _)
def formBad (d:PDef):Bool:=d.lo != 0 || d.hi != 0
theorem def6 (g:Nat) (d:PDef) (wv:Value) (w:World) (hd:DefAt w g 0 d wv):Calls Tryz.prog 219 #[.pointer (some ⟨g,0,none⟩)] w (RetB w (formBad d)):=by
 obtain ⟨c0,c1,c2,c3,c4⟩:=hd
 cases e:d.lo != 0
 all_goals
  go_enter Tryz.func219,Tryz.ntmps219
  go_wp2
  go_ret
  exact RetB.mk (by simp [formBad,e]) (Below.refl _ _)
def manyBad (d:PDef):Bool:=decide (d.words.length < 1) || decide (50 < d.words.length)
theorem def7 (g:Nat) (d:PDef) (wv:Value) (w:World) (hd:DefAt w g 0 d wv) (hs:Strs w wv d.words) (hl:d.words.length≤1000):Calls Tryz.prog 220 #[.pointer (some ⟨g,0,none⟩)] w (RetB w (manyBad d)):=by
 obtain ⟨c0,c1,c2,c3,c4⟩:=hd
 obtain ⟨a,cap,b,off,rfl,-⟩:=hs.open
 cases e:decide (d.words.length < 1)<;>cases e2:decide (50 < d.words.length)
 all_goals
  have e' : decide ((d.words.length:Int) < 1)=decide (d.words.length < 1):=by rw [Bool.eq_iff_iff];simp only [decide_eq_true_eq];omega
  have e2' : decide ((50:Int) < (d.words.length:Int))=decide (50 < d.words.length):=by rw [Bool.eq_iff_iff];simp only [decide_eq_true_eq];omega
  rw [e] at e'
  rw [e2] at e2'
  have E:=Lib.hid e
  have E2:=Lib.hid e2
  clear e e2
  go_enter Tryz.func220,Tryz.ntmps220
  go_wp2
  go_ret
  exact RetB.mk (by simp only [manyBad,E.out,E2.out];first|rfl|simp_all) (Below.refl _ _)
theorem callD81:CallOk 222:=fun _ _=>by kernel_rfl
theorem def81 (s:ByteArray) (w:World) (hs:s.size≤1000):Calls Tryz.prog 222 #[.string s] w (RetB w (!nameB s)):=by
 go_enter Tryz.func222,Tryz.ntmps222
 go_wp2_with (go_at_call 214;refine (attrName _ _ (by omega)).mono ?_;rintro e w' ⟨rfl,hb⟩)
 go_ret
 exact RetB.mk rfl hb
theorem def8 (g:Nat) (d:PDef) (wv:Value) (w:World) (hd:DefAt w g 0 d wv) (hs:Strs w wv d.words) (hl:d.words.length≤1000) (hsm:Hid (∀s∈d.words,s.size≤1000)) :
  Calls Tryz.prog 221 #[.pointer (some ⟨g,0,none⟩)] w (RetB w (d.words.any fun s => !nameB s)):=by
 obtain ⟨c0,c1,c2,c3,c4⟩:=hd
 go_enter Tryz.func221,Tryz.ntmps221
 go_wp2_with (go_at_call 104;refine (containsStr _ d.words _ (fun s => !nameB s) _ hs (by omega) callD81 (fun x hx w' _=>def81 x w' (hsm.out x hx))).mono ?_;rintro e w' ⟨rfl,hb⟩)
 go_ret
 exact RetB.mk rfl hb
theorem def9 (g:Nat) (d:PDef) (wv:Value) (w:World) (hd:DefAt w g 0 d wv) (hs:Strs w wv d.words) (hl:d.words.length≤1000):Calls Tryz.prog 223 #[.pointer (some ⟨g,0,none⟩)] w (RetB w (!riseB d.words)):=by
 obtain ⟨c0,c1,c2,c3,c4⟩:=hd
 go_enter Tryz.func223,Tryz.ntmps223
 go_wp2_with (go_at_call 224;refine (attrRising _ d.words _ hs (by omega)).mono ?_;rintro e w' ⟨rfl,n,rfl⟩)
 go_ret
 exact RetB.mk rfl (below_drewN _ _)
theorem cD1:CallOk 213:=fun _ _=>by kernel_rfl
theorem cD2:CallOk 215:=fun _ _=>by kernel_rfl
theorem cD3:CallOk 216:=fun _ _=>by kernel_rfl
theorem cD4:CallOk 217:=fun _ _=>by kernel_rfl
theorem cD5:CallOk 218:=fun _ _=>by kernel_rfl
theorem cD6:CallOk 219:=fun _ _=>by kernel_rfl
theorem cD7:CallOk 220:=fun _ _=>by kernel_rfl
theorem cD8:CallOk 221:=fun _ _=>by kernel_rfl
theorem cD9:CallOk 223:=fun _ _=>by kernel_rfl
def pattrL (a:PAttr):List PV := [pstr a.name,pint a.kind,pint a.n,pstr a.s]
def pattrs (l:List PAttr):PV:=.sl l.length 4 (l.flatMap pattrL) none
def pdefL (d:PDef):List PV := [pstr d.name,pint d.kind,pint d.lo,pint d.hi,pstrs d.words]
def pdefs (l:List PDef):PV:=.sl l.length 5 (l.flatMap pdefL) none
def pschema (s:PSchema):PV:=.agg [pint s.dims,pint s.metric,pdefs s.defs]
def pentry (e:PEntry):PV:=.agg [pint e.id,pint e.ver,pint e.owner,pint e.filed,pint e.frm,pint e.to,pint e.born,pints e.vec,pattrs e.attrs]
theorem low_pattrL (a:PAttr):∀c∈pattrL a,Low c:=by intro c hc;simp [pattrL] at hc;rcases hc with rfl|rfl|rfl|rfl<;>exact .val _
theorem low_pattrs (l:List PAttr):Low (pattrs l)↔True:=⟨fun _=>trivial,fun _=>.sl _ _ _ _ (fun c hc=>by obtain ⟨a,-,h⟩:=List.mem_flatMap.1 hc;exact low_pattrL a c h)⟩
theorem low_pdefL (d:PDef):∀c∈pdefL d,Low c:=by
 intro c hc;simp [pdefL] at hc
 rcases hc with rfl|rfl|rfl|rfl|rfl
 ·exact .val _
 ·exact .val _
 ·exact .val _
 ·exact .val _
 ·exact (low_pstrs _).2 trivial
theorem low_pdefs (l:List PDef):Low (pdefs l)↔True:=⟨fun _=>trivial,fun _=>.sl _ _ _ _ (fun c hc=>by obtain ⟨a,-,h⟩:=List.mem_flatMap.1 hc;exact low_pdefL a c h)⟩
theorem low_pschema (s:PSchema):Low (pschema s)↔True:=⟨fun _=>trivial,fun _=>.agg _ (by
 intro c hc;simp at hc
 rcases hc with rfl|rfl|rfl
 ·exact .val _
 ·exact .val _
 ·exact (low_pdefs _).2 trivial)⟩
theorem low_pentry (s:PEntry):Low (pentry s)↔True:=⟨fun _=>trivial,fun _=>.agg _ (by
 intro c hc;simp at hc
 rcases hc with rfl|rfl|rfl|rfl|rfl|rfl|rfl|rfl|rfl
 ·exact .val _
 ·exact .val _
 ·exact .val _
 ·exact .val _
 ·exact .val _
 ·exact .val _
 ·exact .val _
 ·exact (low_pints _).2 trivial
 ·exact (low_pattrs _).2 trivial)⟩
end
section
open Go.RowKit
variable {Φ:Imm} {μ:Nat→Option Nat} {w:World} (himm:∀b o u,Φ b o=some u→w.cell? ⟨b,o,none⟩=some u)
include himm
theorem rd_of_rep {α:Type} {f:α→Value} {l:List α} {n:Nat} {own:Option TypeId} {v:Value} (h:Rep Φ μ (.sl n 1 (l.map fun x=>.val (f x)) own) v):Rd w v (l.map f):=by
 obtain ⟨a,b,off,cap,us,rfl,h1,h2,h3,h4,h5,h6⟩:=h.sl_inv
 have hn:n=l.length:=by simpa using h3.symm
 subst hn
 refine ⟨a,cap,b,off,by simp,by simpa using h1,h2,by simpa using h4,fun j u hu=>?_⟩
 have hj:j < l.length:=by have:=(List.getElem?_eq_some_iff.1 hu).1;simpa using this
 have hr:=h6 j (.val (f l[j])) (by simp [hj])
 obtain ⟨e,-⟩:=hr.val_inv
 have:=himm _ _ _ (h5 j (by simpa using hj))
 rw [this,e]
 simp [hj] at hu
 rw [hu]
theorem ints_of_rep {zs:List Int} {v:Value} (h:Rep Φ μ (pints zs) v):Ints w v zs:=rd_of_rep himm h
theorem strs_of_rep {zs:List ByteArray} {v:Value} (h:Rep Φ μ (pstrs zs) v):Strs w v zs:=rd_of_rep himm h
theorem bytes_of_rep {zs:List Int} {v:Value} (h:Rep Φ μ (pbytes zs) v):Bytes w v zs:=rd_of_rep himm h
theorem rdS_of_rep {α:Type} {c:α→List Value} {k:Nat} (hk:∀x,(c x).length=k) {l:List α} {own:Option TypeId} {v:Value} (h:Rep Φ μ (.sl l.length k (l.flatMap fun x=>(c x).map .val) own) v):RdS w v k (l.map c):=by
 obtain ⟨a,b,off,cap,us,rfl,h1,h2,h3,h4,h5,h6⟩:=h.sl_inv
 refine ⟨a,cap,b,off,by simp,by simpa using h1,h2,by simpa using h4,fun i j r u hr hu=>?_⟩
 rw [List.getElem?_map] at hr
 obtain ⟨x,hx,rfl⟩:=Option.map_eq_some_iff.1 hr
 have hget:=flatMap_get (f:=fun x=>(c x).map PV.val) (k:=k) (by intro x;simp [hk]) hx (m:=j) (c:=.val u) (by simp [hu])
 have hlt:=(List.getElem?_eq_some_iff.1 hget).1
 obtain ⟨e,-⟩:=(h6 _ _ hget).val_inv
 have:=himm _ _ _ (h5 _ hlt)
 rw [←Nat.add_assoc] at this
 rw [this,e]
theorem attrs_of_rep {l:List PAttr} {v:Value} (h:Rep Φ μ (pattrs l) v):Attrs w v l:=rdS_of_rep himm (c:=attrC) (fun _=>rfl) h
theorem defs_of_rep {l:List PDef} {v:Value} (h:Rep Φ μ (pdefs l) v):Defs w v l:=by
 obtain ⟨a,b,off,cap,us,rfl,h1,h2,h3,h4,h5,h6⟩:=h.sl_inv
 refine ⟨a,cap,b,off,rfl,h1,h2,h4,fun i d hd=>?_⟩
 have cell:∀(m:Nat) (c:PV),(pdefL d)[m]? = some c→w.cell? ⟨b,off+i * 5+m,none⟩=some (us (i * 5+m))∧Rep Φ μ c (us (i * 5+m)):=by
  intro m c hc
  have hget:=flatMap_get (f:=pdefL) (k:=5) (fun _=>rfl) hd hc
  have hlt:=(List.getElem?_eq_some_iff.1 hget).1
  have:=himm _ _ _ (h5 _ hlt)
  rw [←Nat.add_assoc] at this
  exact ⟨this,h6 _ _ hget⟩
 obtain ⟨c0,r0⟩:=cell 0 _ rfl
 obtain ⟨c1,r1⟩:=cell 1 _ rfl
 obtain ⟨c2,r2⟩:=cell 2 _ rfl
 obtain ⟨c3,r3⟩:=cell 3 _ rfl
 obtain ⟨c4,r4⟩:=cell 4 _ rfl
 refine ⟨us (i * 5+4),⟨by rw [Nat.add_zero] at c0;rw [c0,r0.val_inv.1],by rw [c1,r1.val_inv.1],by rw [c2,r2.val_inv.1],by rw [c3,r3.val_inv.1],c4⟩,strs_of_rep himm r4⟩
theorem schema_of_rep {s:PSchema} {v:Value} (h:Rep Φ μ (pschema s) v):SchemaV w v s:=by
 obtain ⟨us,rfl,hr⟩:=h.agg_inv
 match us,hr with
 | [a,b,c],hr=>
  have h0:=(hr.2 0 _ _ rfl rfl).val_inv.1
  have h1:=(hr.2 1 _ _ rfl rfl).val_inv.1
  have h2:=hr.2 2 _ _ rfl rfl
  subst h0 h1
  exact ⟨c,rfl,defs_of_rep himm h2⟩
 | [],hr=>exact absurd hr.1 (by simp)
 | [_],hr=>exact absurd hr.1 (by simp)
 | [_,_],hr=>exact absurd hr.1 (by simp)
 |_ :: _ :: _ :: _ :: _,hr=>exact absurd hr.1 (by simp)
theorem entry_of_rep {e:PEntry} {v:Value} (h:Rep Φ μ (pentry e) v):EntryV w v e:=by
 obtain ⟨us,rfl,hr⟩:=h.agg_inv
 have hl:=hr.1
 simp only [List.length_cons,List.length_nil] at hl
 have g:∀j (h:j < 9),us[j]? = some (us[j]'(by omega)):=fun j h=>by simp [hl,h]
 obtain ⟨x0,x1,x2,x3,x4,x5,x6,x7,x8,rfl⟩:∃x0 x1 x2 x3 x4 x5 x6 x7 x8,us = [x0,x1,x2,x3,x4,x5,x6,x7,x8]:=by
  match us,hl with
  | [x0,x1,x2,x3,x4,x5,x6,x7,x8],_=>exact ⟨x0,x1,x2,x3,x4,x5,x6,x7,x8,rfl⟩
 have h0:=(hr.2 0 _ _ rfl rfl).val_inv.1
 have h1:=(hr.2 1 _ _ rfl rfl).val_inv.1
 have h2:=(hr.2 2 _ _ rfl rfl).val_inv.1
 have h3:=(hr.2 3 _ _ rfl rfl).val_inv.1
 have h4:=(hr.2 4 _ _ rfl rfl).val_inv.1
 have h5:=(hr.2 5 _ _ rfl rfl).val_inv.1
 have h6:=(hr.2 6 _ _ rfl rfl).val_inv.1
 have h7:=hr.2 7 _ _ rfl rfl
 have h8:=hr.2 8 _ _ rfl rfl
 subst h0 h1 h2 h3 h4 h5 h6
 exact ⟨x7,x8,rfl,ints_of_rep himm h7,attrs_of_rep himm h8⟩
theorem post_tup3 {w' : World} {E:TypeId} {v:Value} {α:Type} {f:α→Value} {l:List α} {x y:Int} (hplain:∀x,plainV (f x)=true) (ho:Own w.heap.size E w' v (l.map f)) (hb:Below w.heap.size w w') (hE:E < 1000000:=by decide) :
  CallPost Φ w (· = .tup [.sl l.length 1 (l.map fun x=>.val (f x)) none,pint x,pint y]) (.returned (.tuple #[v, .int .i64 x, .int .i64 y])) w':=by
 obtain ⟨Φ',h1,h2,h3,h4⟩:=own_rep himm hplain ho hb hE
 exact ⟨_,_,Φ',rfl,rfl,(RepL.cons h3.bare (RepL.cons (.val _ rfl) (RepL.cons (.val _ rfl) RepL.nil))).tup,h1,h2,hb,fun n k cs E' e=>by cases e⟩
end
section
open Go.RowKit
theorem pcalls2 {P:Program} {f:FuncId} {p q:PV} {post:PV→Prop} (hc:callB P f=true) (h:∀(Φ:Imm) (μ:Nat→Option Nat) (w:World) (v u:Value),(∀b o u,Φ b o=some u→w.cell? ⟨b,o,none⟩=some u)→Rep Φ μ p v→Rep Φ μ q u→Calls P f #[v,u] w (CallPost Φ w post)):PCalls P f [p,q] post:=by
 refine ⟨hc,fun Φ μ w vs himm hgl hr=>?_⟩
 match vs,hr with
 | [v,u],hr=>exact h Φ μ w v u himm (hr.2 0 _ _ rfl rfl) (hr.2 1 _ _ rfl rfl)
 | [],hr=>exact absurd hr.1 (by simp)
 | [_],hr=>exact absurd hr.1 (by simp)
 |_ :: _ :: _ :: _,hr=>exact absurd hr.1 (by simp)
end
section
open Go.ChangeShapes Go.WideShapes Go.ChangeAt Go.RowKit
theorem wf64 {z:Int} (h:(Lit.int .i64 z).wf=true):Fit64 z:=by
 simp [Lit.wf,IntKind.min,IntKind.max,IntKind.signed,IntKind.bits] at h
 exact ⟨by omega,by omega⟩
theorem wf8 {z:Int} (h:(Lit.int .u8 z).wf=true):0≤z∧z < 256:=by
 simp [Lit.wf,IntKind.min,IntKind.max,IntKind.signed,IntKind.bits] at h
 exact ⟨by omega,by omega⟩
theorem opensInt:Opens Tryz.prog 3 (fun z => [pint z]) Fit64:=(opens_int Tryz.underlying3).map id (fun _ _=>rfl) (fun _ h=>wf64 h)
theorem opensByte:Opens Tryz.prog 5 (fun z => [pbyte z]) (fun z=>0≤z∧z < 256):=(opens_int Tryz.underlying5).map id (fun _ _=>rfl) (fun _ h=>wf8 h)
theorem opensStr:Opens Tryz.prog 9 (fun z => [pstr z]) (fun s=>s.size≤reachBytes):=opens_str Tryz.underlying9
theorem flatMap_one {α:Type} (f:α→PV) (l:List α):l.flatMap (fun x => [f x])=l.map f:=by
 induction l with
 |nil=>rfl
 |cons x l ih=>simp [ih]
theorem opensInts:Opens Tryz.prog 27 (fun l => [pints l]) (fun l=>(∀z∈l,Fit64 z)∧l.length * 8≤reachBytes):=
 (opens_slice Tryz.underlying27 (by kernel_rfl) (by decide) (by kernel_rfl) opensInt (fun _ _=>rfl)).map id (fun a _=>by show [pints a]=_;rw [flatMap_one];rfl) (fun _ h=>h)
theorem opensBytes:Opens Tryz.prog 92 (fun l => [pbytes l]) (fun l=>(∀z∈l,0≤z∧z < 256)∧l.length * 1≤reachBytes):=
 (opens_slice Tryz.underlying92 (by kernel_rfl) (by decide) (by kernel_rfl) opensByte (fun _ _=>rfl)).map id (fun a _=>by show [pbytes a]=_;rw [flatMap_one];rfl) (fun _ h=>h)
theorem opensStrs:Opens Tryz.prog 75 (fun l => [pstrs l]) (fun l=>(∀z∈l,z.size≤reachBytes)∧l.length * 16≤reachBytes):=
 (opens_slice Tryz.underlying75 (by kernel_rfl) (by decide) (by kernel_rfl) opensStr (fun _ _=>rfl)).map id (fun a _=>by show [pstrs a]=_;rw [flatMap_one];rfl) (fun _ h=>h)
structure GoodS (s:PSchema):Prop where
 dims:Fit64 s.dims
 metric:Fit64 s.metric
 defs:∀d∈s.defs,Fit64 d.kind∧Fit64 d.lo∧Fit64 d.hi∧d.words.length * 16≤reachBytes
 len:s.defs.length * 64≤reachBytes
theorem argBytes:ArgOpens Tryz.prog 92 pbytes (fun l=>(∀z∈l,0≤z∧z < 256)∧l.length * 1≤reachBytes):=arg_slice Tryz.underlying92 opensBytes
theorem reach_eq:reachBytes=140737488351232:=rfl
end
section
open Go.RowKit
theorem PCalls.weak {P:Program} {f:FuncId} {args:List PV} {q:PV} (h:PCalls P f args (fun r=>Weak r q)):PCalls P f args (· = q):=by
 refine ⟨h.1,fun Φ μ w vs h1 hgl h2=>(h.2 Φ μ w vs h1 hgl h2).mono ?_⟩
 rintro e w' ⟨r,v,Φ',k1,k2,k3,k4,k5,k6,k7⟩
 refine ⟨q,v,Φ',k1,rfl,k2.1 _ _ _ k3,k4,k5,k6,fun n k cs E e=>?_⟩
 have:=k2.2 (by rw [e];rfl)
 exact k7 n k cs E (by rw [←this,e])
end
section
open Go.RowKit
variable {P:Program} {T:Tab} {σ:PS} {o:Oper} {i base:Nat} {ops:Array Oper} {ok:Nat→Nat→Bool} {rest:List (Nat×Oper)} {K:PS→Prop}
theorem PWops.boolS {d:Nat} {b:Bool} (hk:isCmp o.op=true) (hg:pguard ops σ o=some true) (hd:o.dst=some d) (hE:feff (presE T (headB ops o.dst) (base+i) (σ.only (ok i)) o.op)=some (.val (.bool b))) (hb:σ.freeB (base+i)=true)
  (kt:b=true→PWops P T ops base ok rest K (σ.put d (.val (.bool true)))) (kf:b=false→PWops P T ops base ok rest K (σ.put d (.val (.bool false)))):PWops P T ops base ok ((i,o) :: rest) K σ:=by
 cases b with
 |true=>exact PWops.bool true hg hd hE rfl hb (kt rfl)
 |false=>exact PWops.bool false hg hd hE rfl hb (kf rfl)
theorem PWops.mvC {d:Nat} {x:Operand} {p:PV} (hop:o.op = .move x) (hg:pguard ops σ o=some true) (hd:o.dst=some d) (hx' : ownPV σ x=p) (hn:p.ownB=false) (hb:σ.freeB (base+i)=true) (k:PWops P T ops base ok rest K (σ.put d p)):PWops P T ops base ok ((i,o) :: rest) K σ:=by
 refine PWops.valEq hg hd (p:=p) ?_ rfl hb k
 have hp:pev σ x=p:=by
  cases x with
  |tmp s=>simp only [ownPV] at hx'; simp only [pev,hx'];exact PV.bare_of _ hn
  |_=>exact hx'
 simp only [hop,presE]
 split
 ·cases x with
  |tmp s=>
   simp only [ownPV] at hx'
   have:(σ.only (ok i)).t s=p:=hx'
   simp only [takeE,this,hn]
   simp only [Bool.false_eq_true,if_false,PV.bare_of _ hn]
  |_=>simp only [takeE,pev_only,hp]
 ·simp only [pev_only,hp]
theorem PWops.ldV {d id off:Nat} {x:Operand} {t:TypeId} {ti:TyI} {bs:List PV} {c p:PV} (hop:o.op = .load t x) (hg:pguard ops σ o=some true) (hd:o.dst=some d) (hx:pev σ x = .ptr id off) (hbs:(σ.only (ok i)).b id=some bs) (hc:bs[off]? = some c) (ht:T.at t=some ti) (ha:ti.agg=false) (hq:fval c=some p) (hn:p.ownB=false) (hb:σ.freeB (base+i)=true) (k:PWops P T ops base ok rest K (σ.put d p)):PWops P T ops base ok ((i,o) :: rest) K σ:=by
 have hq':=fval_eq hq
 subst hq'
 refine PWops.valEq hg hd (p:=c) ?_ rfl hb k
 have h1:ploadO T (headB ops o.dst) (σ.only (ok i)).b t (.ptr id off)=none:=by
  simp only [ploadO]
  split
  ·rw [hbs]
   simp only [hc]
   cases c with
   |sl n k cs own=>cases own with
    |none=>rfl
    |some E=>simp [PV.ownB] at hn
   |_=>rfl
  ·rfl
 simp only [hop,presE,pev_only,hx,h1,pvalA,pval,ht,ploadAt,hbs,asVal,ha,hc,Bool.false_eq_true,if_false,Option.map_some,PV.bare_of _ hn]
theorem getD_get {α:Type} {l:List α} {j:Nat} (x:α) (h:j < l.length):l[j]? = some (l.getD j x):=by
 rw [List.getD_eq_getElem?_getD,List.getElem?_eq_getElem h];rfl
theorem PWops.idxZ {d n k e by_:Nat} {z:Int} {cs zr:List PV} {own:Option TypeId} {kk:IntKind} {x ix:Operand} {t:TypeId} {ti:TyI} (hg:pguard ops σ o=some true) (hd:o.dst=some d) (hop:o.op = .indexAddr t x ix) (hx:pev σ x = .sl n k cs own) (hi:pev σ ix = .val (.int kk z)) (ht:T.at t=some ti) (hk:ti.kind = .slice e k by_ zr) (hb:σ.freeB (base+i)=true) (h0:0≤z∧z < n)
  (kn:PWops P T ops base ok rest K (σ.put d (.ep cs (z.toNat * k)))):PWops P T ops base ok ((i,o) :: rest) K σ:=
 PWops.idx (j:=z.toNat) hg hd hop hx (by rw [hi,Int.toNat_of_nonneg h0.1]) ht hk hb (by omega) kn
theorem PWops.idxZ1 {d n e by_:Nat} {z:Int} {cs zr:List PV} {own:Option TypeId} {kk:IntKind} {x ix:Operand} {t:TypeId} {ti:TyI} (hg:pguard ops σ o=some true) (hd:o.dst=some d) (hop:o.op = .indexAddr t x ix) (hx:pev σ x = .sl n 1 cs own) (hi:pev σ ix = .val (.int kk z)) (ht:T.at t=some ti) (hk:ti.kind = .slice e 1 by_ zr) (hb:σ.freeB (base+i)=true) (h0:0≤z∧z < n)
  (kn:PWops P T ops base ok rest K (σ.put d (.ep cs z.toNat))):PWops P T ops base ok ((i,o) :: rest) K σ:=
 PWops.idx1 (j:=z.toNat) hg hd hop hx (by rw [hi,Int.toNat_of_nonneg h0.1]) ht hk hb (by omega) kn
theorem PWops.ldM {α:Type} [Inhabited α] {d off:Nat} {f:α→PV} {l:List α} {q:PV} {x:Operand} {t:TypeId} {ti:TyI} (hg:pguard ops σ o=some true) (hd:o.dst=some d) (hop:o.op = .load t x) (hx:pev σ x = .ep (l.map f) off) (ht:T.at t=some ti) (ha:ti.agg=false) (hb:σ.freeB (base+i)=true) (hl:off < l.length) (hq:fval (f (l.getD off default)).bare=some q)
  (kn:PWops P T ops base ok rest K (σ.put d q)):PWops P T ops base ok ((i,o) :: rest) K σ:=
 PWops.ld hg hd hop hx ht ha hb (map_get (getD_get default hl)) hq kn
theorem PWops.ldR {α:Type} [Inhabited α] {d j k r:Nat} {f:α→List PV} {l:List α} {c q:PV} {x:Operand} {t:TypeId} {ti:TyI} (hg:pguard ops σ o=some true) (hd:o.dst=some d) (hop:o.op = .load t x) (hx:pev σ x = .ep (l.flatMap f) (j * k+r)) (ht:T.at t=some ti) (ha:ti.agg=false) (hb:σ.freeB (base+i)=true) (hk:∀x,(f x).length=k) (hl:j < l.length) (hc:(f (l.getD j default))[r]? = some c) (hq:fval c.bare=some q)
  (kn:PWops P T ops base ok rest K (σ.put d q)):PWops P T ops base ok ((i,o) :: rest) K σ:=
 PWops.ld hg hd hop hx ht ha hb (flatMap_get hk (getD_get default hl) hc) hq kn
theorem PWops.ldRA {α:Type} [Inhabited α] {d j k:Nat} {f:α→List PV} {l:List α} {row:List PV} {x:Operand} {t:TypeId} {kd:TD} {zr:List PV} {es:List SK} (hg:pguard ops σ o=some true) (hd:o.dst=some d) (hop:o.op = .load t x) (hx:pev σ x = .ep (l.flatMap f) (j * k)) (ht:T.at t=some ⟨k,true,kd,zr,es⟩) (hb:σ.freeB (base+i)=true) (hk:∀x,(f x).length=k) (hl:j < l.length) (hr:flist ((f (l.getD j default)).map PV.bare)=some row)
  (kn:PWops P T ops base ok rest K (σ.put d (.agg row))):PWops P T ops base ok ((i,o) :: rest) K σ:=by
 refine PWops.ldA hg hd hop hx ht hb ?_ ?_ kn
 ·rw [flatMap_len hk]
  have:=Nat.mul_le_mul_right k (show j+1≤l.length from hl)
  rw [Nat.succ_mul] at this;exact this
 ·rw [flatMap_row hk (getD_get default hl)];exact flist_eq hr
theorem PWops.slcM {α:Type} {d e by_ n:Nat} {zl zh:Int} {kl kh:IntKind} {f:α→PV} {L:List α} {zr:List PV} {own:Option TypeId} {x lo hi:Operand} {t:TypeId} {ti:TyI} (hg:pguard ops σ o=some true) (hd:o.dst=some d) (hop:o.op = .slice t x (some lo) (some hi) none) (hx:pev σ x = .sl n 1 (L.map f) own) (hlo:pev σ lo = .val (.int kl zl)) (hhi:pev σ hi = .val (.int kh zh)) (ht:T.at t=some ti) (hk:ti.kind = .slice e 1 by_ zr) (hb:σ.freeB (base+i)=true)
  (h1:0≤zl∧zl≤zh∧zh≤n∧n=L.length) (kn:PWops P T ops base ok rest K (σ.put d (.sl ((L.drop zl.toNat).take (zh.toNat - zl.toNat)).length 1 (((L.drop zl.toNat).take (zh.toNat - zl.toNat)).map f) none))):PWops P T ops base ok ((i,o) :: rest) K σ:=by
 refine PWops.slc zl.toNat zh.toNat hg hd hop hx ht hk hb ?_ ?_ ?_
 ·simp only [Option.map_some,hhi,pbound];rw [if_pos ⟨by omega,h1.2.2.1⟩]
 ·simp only [Option.map_some,hlo,pbound];rw [if_pos ⟨h1.1,by omega⟩]
 ·have:PV.sl (zh.toNat - zl.toNat) 1 (((L.map f).drop (zl.toNat * 1)).take ((zh.toNat - zl.toNat) * 1)) none = .sl ((L.drop zl.toNat).take (zh.toNat - zl.toNat)).length 1 (((L.drop zl.toNat).take (zh.toNat - zl.toNat)).map f) none:=
   sl_eq (by rw [List.length_take,List.length_drop];omega) (by rw [Nat.mul_one,Nat.mul_one,List.map_take,List.map_drop])
  rw [this];exact kn
theorem PWops.slcL {α:Type} {d e by_ n:Nat} {zl:Int} {kl:IntKind} {f:α→PV} {L:List α} {zr:List PV} {own:Option TypeId} {x lo:Operand} {t:TypeId} {ti:TyI} (hg:pguard ops σ o=some true) (hd:o.dst=some d) (hop:o.op = .slice t x (some lo) none none) (hx:pev σ x = .sl n 1 (L.map f) own) (hlo:pev σ lo = .val (.int kl zl)) (ht:T.at t=some ti) (hk:ti.kind = .slice e 1 by_ zr) (hb:σ.freeB (base+i)=true)
  (h1:0≤zl∧zl≤n∧n=L.length) (kn:PWops P T ops base ok rest K (σ.put d (.sl (L.drop zl.toNat).length 1 ((L.drop zl.toNat).map f) none))):PWops P T ops base ok ((i,o) :: rest) K σ:=by
 refine PWops.slc zl.toNat n hg hd hop hx ht hk hb rfl ?_ ?_
 ·simp only [Option.map_some,hlo,pbound];rw [if_pos ⟨h1.1,by omega⟩]
 ·have:PV.sl (n - zl.toNat) 1 (((L.map f).drop (zl.toNat * 1)).take ((n - zl.toNat) * 1)) none = .sl (L.drop zl.toNat).length 1 ((L.drop zl.toNat).map f) none:=
   sl_eq (by rw [List.length_drop];omega) (by rw [Nat.mul_one,Nat.mul_one,List.take_of_length_le (by rw [List.length_drop,List.length_map];omega),List.map_drop])
  rw [this];exact kn
theorem PWops.slcH {α:Type} {d e by_ n:Nat} {zh:Int} {kh:IntKind} {f:α→PV} {L:List α} {zr:List PV} {own:Option TypeId} {x hi:Operand} {t:TypeId} {ti:TyI} (hg:pguard ops σ o=some true) (hd:o.dst=some d) (hop:o.op = .slice t x none (some hi) none) (hx:pev σ x = .sl n 1 (L.map f) own) (hhi:pev σ hi = .val (.int kh zh)) (ht:T.at t=some ti) (hk:ti.kind = .slice e 1 by_ zr) (hb:σ.freeB (base+i)=true)
  (h1:0≤zh∧zh≤n∧n=L.length) (kn:PWops P T ops base ok rest K (σ.put d (.sl (L.take zh.toNat).length 1 ((L.take zh.toNat).map f) none))):PWops P T ops base ok ((i,o) :: rest) K σ:=by
 refine PWops.slc 0 zh.toNat hg hd hop hx ht hk hb ?_ rfl ?_
 ·simp only [Option.map_some,hhi,pbound];rw [if_pos ⟨h1.1,h1.2.1⟩]
 ·have:PV.sl (zh.toNat - 0) 1 (((L.map f).drop (0 * 1)).take ((zh.toNat - 0) * 1)) none = .sl (L.take zh.toNat).length 1 ((L.take zh.toNat).map f) none:=
   sl_eq (by rw [List.length_take];omega) (by rw [Nat.mul_one,Nat.zero_mul,List.drop_zero,Nat.sub_zero,List.map_take])
  rw [this];exact kn
end
section
open Go.RowKit
theorem take_getD {α:Type} {l:List α} {j:Nat} (x:α) (h:j < l.length):l.take (j+1)=l.take j ++ [l.getD j x]:=by
 rw [List.take_add_one,getD_get x h];rfl
instance:Inhabited ByteArray:=⟨ByteArray.empty⟩
def isStop:Op→Bool
 | .binOp op _ _ _ _=>match op with
  | .eql | .neq | .lss | .leq | .gtr | .geq | .add | .sub | .mul | .quo | .rem=>true
  |_=>false
 | .indexAddr .. => true
 | .slice .. => true
 | .call c=>match c.callee with
  | .builtin .len | .builtin .max | .builtin .min=>false
  |_=>true
 |_=>false
def applyE (σ:PS):Option Nat→Option Eff→Option PS
 |some d,some ⟨v,[],none,[]⟩=>match v with
  | .sl n k cs (some e)=>match flist cs with
   |some l=>some (σ.put d (.sl n k l (some e)))
   |none=>none
  |v=>match fval v with
   |some p=>some (σ.put d p)
   |none=>none
 |some d,some ⟨v,[],some s,[]⟩=>match fval v,fval (σ.t s).bare with
  |some p,some q=>some ((σ.put s q).put d p)
  |_,_=>none
 |some d,some ⟨v,[(id,cs)],none,[]⟩=>match fval v,flist cs with
  |some p,some l=>some ((σ.setb id l).put d p)
  |_,_=>none
 |none,some ⟨_,[(id,cs)],none,[]⟩=>match flist cs with
  |some l=>some (σ.setb id l)
  |none=>none
 |none,some ⟨_,[(id,cs)],some s,[]⟩=>match flist cs,fval (σ.t s).bare with
  |some l,some q=>some ((σ.put s q).setb id l)
  |_,_=>none
 |_,_=>none
def quick (T:Tab) (σ:PS) (ok:Nat→Bool):Op→Option PV
 | .move x=>match fcell (ownPV σ x) with
  |some p=>if p.ownB then none else some p
  |none=>none
 | .extract x i=>match pev σ x with
  | .tup vs=>match vs[i]? with
   |some c=>match fcell c with
    |some p=>if p.ownB then none else some p
    |none=>none
   |none=>none
  |_=>none
 | .load t x=>match pev σ x with
  | .ptr id off=>match ok id,σ.b id,T.at t with
   |true,some bs,some ti=>if ti.agg then none else match bs[off]? with
    |some c=>match fval c with
     |some p=>if p.ownB then none else some p
     |none=>none
    |none=>none
   |_,_,_=>none
  |_=>none
 |_=>none
noncomputable def stepF (T:Tab) (ops:Array Oper) (base:Nat) (ok:Nat→Nat→Bool) (i:Nat) (o:Oper) (σ:PS):Option PS:=
 match pguard ops σ o with
 |some false=>match o.dst with
  |some d=>some (σ.put d (.tup []))
  |none=>none
 |some true=>
  if isStop o.op then none
  else match σ.freeB (base+i) with
   |false=>none
   |true=>match o.dst,quick T σ (ok i) o.op with
    |some d,some p=>some (σ.put d p)
    |_,_=>applyE σ o.dst (presE T (headB ops o.dst) (base+i) (σ.only (ok i)) o.op)
 |none=>none
theorem flatMap_drop {α:Type} {f:α→List PV} {k:Nat} (hk:∀x,(f x).length=k):∀(l:List α) (j:Nat),(l.flatMap f).drop (j * k)=(l.drop j).flatMap f
 |l,0=>by simp
 | [],j+1=>by simp
 |y :: l,j+1=>by
  rw [List.flatMap_cons,List.drop_succ_cons,←flatMap_drop hk l j,Nat.succ_mul,Nat.add_comm,←List.drop_drop,List.drop_left' (hk y)]
theorem flatMap_take {α:Type} {f:α→List PV} {k:Nat} (hk:∀x,(f x).length=k):∀(l:List α) (j:Nat),(l.flatMap f).take (j * k)=(l.take j).flatMap f
 |l,0=>by simp
 | [],j+1=>by simp
 |y :: l,j+1=>by
  rw [List.flatMap_cons,List.take_succ_cons,List.flatMap_cons,←flatMap_take hk l j,Nat.succ_mul,Nat.add_comm,List.take_add,List.take_left' (hk y),List.drop_left' (hk y)]
end
section
open Go.RowKit
variable {P:Program} {T:Tab} {σ σ' : PS} {o:Oper} {i base:Nat} {ops:Array Oper} {ok:Nat→Nat→Bool} {rest:List (Nat×Oper)} {K:PS→Prop}
theorem PWops.applyE {E:Option Eff} (hg:pguard ops σ o=some true) (hE:presE T (headB ops o.dst) (base+i) (σ.only (ok i)) o.op=E) (hb:σ.freeB (base+i)=true) (h:Go.Proofs.YtoamkpgaaanafaaGreat.applyE σ o.dst E=some σ') (k:PWops P T ops base ok rest K σ'):PWops P T ops base ok ((i,o) :: rest) K σ:=by
 have fin:∀e,E=some e→σ.app o.dst e=σ'→PWops P T ops base ok ((i,o) :: rest) K σ:=fun e he h=>PWops.step hg (hE.trans he) hb (by rw [h];exact k)
 unfold Go.Proofs.YtoamkpgaaanafaaGreat.applyE at h
 split at h
 ·rename_i d v hd
  split at h
  ·rename_i n k' cs e
   split at h
   ·rename_i l hl
    cases h
    exact fin _ rfl (by rw [hd,flist_eq hl];rfl)
   ·cases h
  ·split at h
   ·rename_i p hp
    cases h
    exact fin _ rfl (by rw [hd,fval_eq hp];rfl)
   ·cases h
 ·rename_i d v s hd
  split at h
  ·rename_i p q hp hq
   cases h
   exact fin _ rfl (by rw [hd,fval_eq hp];simp only [PS.app,fval_eq hq];rfl)
  ·cases h
 ·rename_i d v id cs hd
  split at h
  ·rename_i p l hp hl
   cases h
   exact fin _ rfl (by rw [hd,fval_eq hp,flist_eq hl];rfl)
  ·cases h
 ·rename_i v id cs hd
  split at h
  ·rename_i l hl
   cases h
   exact fin _ rfl (by rw [hd,flist_eq hl];rfl)
  ·cases h
 ·rename_i v id cs s hd
  split at h
  ·rename_i l q hl hq
   cases h
   exact fin _ rfl (by rw [hd,flist_eq hl];simp only [PS.app,fval_eq hq];rfl)
  ·cases h
 ·cases h
theorem PWops.stepA (h:stepF T ops base ok i o σ=some σ') (k:PWops P T ops base ok rest K σ'):PWops P T ops base ok ((i,o) :: rest) K σ:=by
 unfold stepF at h
 split at h
 ·rename_i hg
  split at h
  ·rename_i d hd
   cases h
   exact PWops.pass hg hd k
  ·cases h
 ·rename_i hg
  split at h
  ·cases h
  ·split at h
   ·cases h
   ·rename_i hb
    split at h
    ·rename_i d p hd hq
     cases h
     unfold quick at hq
     split at hq
     ·rename_i x hop
      split at hq
      ·rename_i p' hp
       split at hq
       ·cases hq
       ·rename_i hn
        cases hq
        exact PWops.mvC hop hg hd (fcell_eq hp) (by simpa using hn) hb k
      ·cases hq
     ·rename_i x ix hop
      split at hq
      ·rename_i vs hx
       split at hq
       ·rename_i c hc
        split at hq
        ·rename_i p' hp
         split at hq
         ·cases hq
         ·rename_i hn
          cases hq
          have hcp:=fcell_eq hp
          subst hcp
          exact PWops.valEq hg hd (p:=c) (by simp only [hop,presE,pvalA,pval,pev_only,hx,hc,Option.map_some,PV.bare_of _ (by simpa using hn:c.ownB=false)]) rfl hb k
        ·cases hq
       ·cases hq
      ·cases hq
     ·rename_i t x hop
      split at hq
      ·rename_i id off hx
       split at hq
       ·rename_i bs ti h1 h2 h3
        split at hq
        ·cases hq
        ·rename_i ha
         split at hq
         ·rename_i c hc
          split at hq
          ·rename_i p' hp
           split at hq
           ·cases hq
           ·rename_i hn
            cases hq
            exact PWops.ldV hop hg hd hx (by simp only [PS.only,h1,if_true];exact h2) hc h3 (by simpa using ha) hp (by simpa using hn) hb k
          ·cases hq
         ·cases hq
       ·cases hq
      ·cases hq
     ·cases hq
    ·exact PWops.applyE hg rfl hb h k
 ·cases h
theorem PWops.doneI {l:List (Nat×Oper)} (h:l.isEmpty=true) (k:K σ):PWops P T ops base ok l K σ:=by
 cases l with
 |nil=>exact k
 |cons x l=>cases h
def isQuo:Op→Bool
 | .binOp .quo _ _ _ _=>true
 |_=>false
def isRem:Op→Bool
 | .binOp .rem _ _ _ _=>true
 |_=>false
theorem PWops.remK {d:Nat} {x y:Int} (hk:isRem o.op=true) (hg:pguard ops σ o=some true) (hd:o.dst=some d) (hE:feff (presE T (headB ops o.dst) (base+i) (σ.only (ok i)) o.op)=some (.val (.int .i64 (x.tmod y)))) (h:0≤x∧0≤y) (hb:σ.freeB (base+i)=true) (k:PWops P T ops base ok rest K (σ.put d (.val (.int .i64 (x % y))))):PWops P T ops base ok ((i,o) :: rest) K σ:=
 PWops.int _ hg hd hE (Int.tmod_eq_emod_of_nonneg h.1) hb k
theorem PWops.quoK {d:Nat} {x y:Int} (hk:isQuo o.op=true) (hg:pguard ops σ o=some true) (hd:o.dst=some d) (hE:feff (presE T (headB ops o.dst) (base+i) (σ.only (ok i)) o.op)=some (.val (.int .i64 (IntKind.i64.wrap (x.tdiv y))))) (h:0≤x∧0 < y∧x≤9223372036854775807) (hb:σ.freeB (base+i)=true) (k:PWops P T ops base ok rest K (σ.put d (.val (.int .i64 (x / y))))):PWops P T ops base ok ((i,o) :: rest) K σ:=by
 have h1:x.tdiv y=x / y:=Int.tdiv_eq_ediv_of_nonneg h.1
 have h2:0≤x / y:=Int.ediv_nonneg h.1 (by omega)
 have h3:x / y≤x:=Int.ediv_le_self _ h.1
 exact PWops.int _ hg hd hE (by rw [h1,wrap64_id (by omega) (by omega)]) hb k
theorem PWops.idd {l:List (Nat×Oper)} (h:PWops P T ops base ok l K σ):PWops P T ops base ok l K σ:=h
theorem PW.idd {M:Nat} {c:Code} {Q:Exit→PS→Prop} (h:PW P M c Q σ):PW P M c Q σ:=h
theorem PWops.slcRL {α:Type} {d e by_ n k:Nat} {zl:Int} {kl:IntKind} {f:α→List PV} {L:List α} {zr:List PV} {own:Option TypeId} {x lo:Operand} {t:TypeId} {ti:TyI} (hg:pguard ops σ o=some true) (hd:o.dst=some d) (hop:o.op = .slice t x (some lo) none none) (hx:pev σ x = .sl n k (L.flatMap f) own) (hlo:pev σ lo = .val (.int kl zl)) (ht:T.at t=some ti) (hk:ti.kind = .slice e k by_ zr) (hb:σ.freeB (base+i)=true)
  (hf:∀x,(f x).length=k) (h1:0≤zl∧zl≤n∧n=L.length) (kn:PWops P T ops base ok rest K (σ.put d (.sl (L.drop zl.toNat).length k ((L.drop zl.toNat).flatMap f) none))):PWops P T ops base ok ((i,o) :: rest) K σ:=by
 refine PWops.slc zl.toNat n hg hd hop hx ht hk hb rfl ?_ ?_
 ·simp only [Option.map_some,hlo,pbound];rw [if_pos ⟨h1.1,by omega⟩]
 ·have:PV.sl (n - zl.toNat) k (((L.flatMap f).drop (zl.toNat * k)).take ((n - zl.toNat) * k)) none = .sl (L.drop zl.toNat).length k ((L.drop zl.toNat).flatMap f) none:=by
   refine sl_eq (by rw [List.length_drop];omega) ?_
   rw [flatMap_drop hf,List.take_of_length_le (by rw [flatMap_len hf,List.length_drop,h1.2.2];exact Nat.le_refl _)]
  rw [this];exact kn
theorem PWops.slcRH {α:Type} {d e by_ n k:Nat} {zh:Int} {kh:IntKind} {f:α→List PV} {L:List α} {zr:List PV} {own:Option TypeId} {x hi:Operand} {t:TypeId} {ti:TyI} (hg:pguard ops σ o=some true) (hd:o.dst=some d) (hop:o.op = .slice t x none (some hi) none) (hx:pev σ x = .sl n k (L.flatMap f) own) (hhi:pev σ hi = .val (.int kh zh)) (ht:T.at t=some ti) (hk:ti.kind = .slice e k by_ zr) (hb:σ.freeB (base+i)=true)
  (hf:∀x,(f x).length=k) (h1:0≤zh∧zh≤n∧n=L.length) (kn:PWops P T ops base ok rest K (σ.put d (.sl (L.take zh.toNat).length k ((L.take zh.toNat).flatMap f) none))):PWops P T ops base ok ((i,o) :: rest) K σ:=by
 refine PWops.slc 0 zh.toNat hg hd hop hx ht hk hb ?_ rfl ?_
 ·simp only [Option.map_some,hhi,pbound];rw [if_pos ⟨h1.1,h1.2.1⟩]
 ·have:PV.sl (zh.toNat - 0) k (((L.flatMap f).drop (0 * k)).take ((zh.toNat - 0) * k)) none = .sl (L.take zh.toNat).length k ((L.take zh.toNat).flatMap f) none:=by
   refine sl_eq (by rw [List.length_take];omega) ?_
   rw [Nat.zero_mul,List.drop_zero,Nat.sub_zero,flatMap_take hf]
  rw [this];exact kn
end
section
open Go.RowKit
theorem Weak.sl {n k:Nat} {own:Option TypeId} {ps qs:List PV} (h:WeakL ps qs):Weak (.sl n k ps own) (.sl n k qs none):=by
 refine ⟨fun Φ μ v hr=>?_,fun e=>by simp [PV.ownB] at e⟩
 cases hr with
 |sl0 _ _ a cap hc=>
  cases h
  exact .sl0 _ _ _ _ hc
 |sl _ _ _ _ b off cap us h1 h2 h3 hp hr=>
  have hl:=h.len
  refine .sl n k qs none b off cap us (by rw [←hl];exact h1) h2 h3 (fun j hj=>hp j (by rw [hl];exact hj)) (fun j c hj=>?_)
  obtain ⟨p,hpj,hw⟩:=h.get j c hj
  exact hw.1 _ _ _ (hr j p hpj)
theorem WeakL.refl:∀(ps:List PV),WeakL ps ps
 | []=>.nil
 |p :: ps=>.cons (.refl p) (WeakL.refl ps)
theorem PCalls.args {P:Program} {f:FuncId} {ps qs:List PV} {post:PV→Prop} (h:PCalls P f qs post) (hw:WeakL ps qs):PCalls P f ps post:=by
 refine ⟨h.1,fun Φ μ w vs himm hgl hr=>h.2 Φ μ w vs himm hgl ⟨by rw [hr.1,hw.len],fun j c u hc hu=>?_⟩⟩
 obtain ⟨p,hp,hw'⟩:=hw.get j c hc
 exact hw'.1 _ _ _ (hr.2 j p u hp hu)
def defOf (a:Nat):List Oper→Nat→Option (Nat×Op)
 | [],_=>none
 |o :: r,k=>match o.dst with
  |some d=>if Nat.beq d a then some (k,o.op) else defOf a r (k+1)
  |none=>defOf a r (k+1)
def tgtGo (env:Nat→Option Nat) (base:Nat) (ops:List Oper):Nat→Nat→Option Nat
 |0,_=>none
 |n+1,a=>match defOf a ops 0 with
  |some (k, .alloc _)=>some (base+k)
  |some (k, .box _ _)=>some (base+k)
  |some (_, .fieldAddr _ (.tmp b) _)=>tgtGo env base ops n b
  |some (_, .move (.tmp b))=>tgtGo env base ops n b
  |some (_, .nilCheck (.tmp b))=>tgtGo env base ops n b
  |some (_, .indexAddr _ (.tmp b) _)=>tgtGo env base ops n b
  |some (_, .slice _ (.tmp b) _ _ _)=>tgtGo env base ops n b
  |some _=>none
  |none=>env a
def tgtOf (env:Nat→Option Nat) (base:Nat) (ops:List Oper) (o:Oper):Option Nat:=match o.op with
 | .store _ (.tmp a) _=>tgtGo env base ops 6 a
 | .load _ (.tmp a)=>tgtGo env base ops 6 a
 |_=>none
def envOf (σ:PS) (a:Nat):Option Nat:=match σ.t a with
 | .ptr id _=>some id
 | .msl id _ _ _=>some id
 |_=>none
def okE (env:Nat→Option Nat) (ops:List Oper) (base i id:Nat):Bool:=okD (clos ops) base ops.length i id && (match (ops[i]?).bind (tgtOf env base ops) with|some k=>Nat.beq id k|none=>true)
def sepE (env:Nat→Option Nat) (base:Nat) (ops:List Oper) (iy ix:Nat) (y x:Oper):Bool:=
 (match tgtOf env base ops y with|some k => !okE env ops base ix k|none=>false) || (match tgtOf env base ops x with|some k => !okE env ops base iy k|none=>false)
theorem sepE_ok {env:Nat→Option Nat} {ops:List Oper} {base iy ix:Nat} {y x:Oper} (hy:ops[iy]? = some y) (hx:ops[ix]? = some x) (hs:sepE env base ops iy ix y x=true) (j:Nat) (h1:okE env ops base iy j=true) (h2:okE env ops base ix j=true):False:=by
 have res:∀(i:Nat) o k,ops[i]? = some o→okE env ops base i j=true→tgtOf env base ops o=some k→j=k:=by
  intro i o k ho h hr
  simp only [okE,ho,Option.bind_some,hr,Bool.and_eq_true] at h
  exact Nat.eq_of_beq_eq_true h.2
 simp only [sepE,Bool.or_eq_true] at hs
 rcases hs with hs|hs
 ·cases hr:tgtOf env base ops y with
  |none=>rw [hr] at hs;cases hs
  |some k=>
   rw [hr] at hs
   have e:=res iy y k hy h1 hr
   subst e
   simp [h2] at hs
 ·cases hr:tgtOf env base ops x with
  |none=>rw [hr] at hs;cases hs
  |some k=>
   rw [hr] at hs
   have e:=res ix x k hx h2 hr
   subst e
   simp [h1] at hs
def indE (env:Nat→Option Nat) (base:Nat) (ops:Array Oper) (iy ix:Nat) (y x:Oper):Bool:=
 (match y.dst,x.dst with|some a,some b=>a != b|_,_=>true) &&
 (match y.dst with|some a => !(tmpsOf x.op.operands.toList).contains a && !(guardT ops x).contains a|none=>true) &&
 (match x.dst with|some b => !(tmpsOf y.op.operands.toList).contains b && !(guardT ops y).contains b|none=>true) &&
 (takesB (headB ops y.dst) y).all (fun s => !(takesB (headB ops x.dst) x).contains s) &&
 (!(mapW (headB ops y.dst) y && mapU x) && !(mapW (headB ops x.dst) x && mapU y)) &&
 ((!(storeB y && usesBox x) && !(storeB x && usesBox y) && !(isStore (headB ops y.dst) y && isStore (headB ops x.dst) x)) || sepE env base ops.toList iy ix y x)
def drawE (env:Nat→Option Nat) (base:Nat) (ops:List Oper):Bool:=
 let cl:=clos ops
 (indexed 0 ops).all fun x=>x.2.after.toList.all (fun e => !Region.binds .any e || decide (e.on < x.1)) &&
  (indexed 0 ops).all fun y => !decide (y.1 < x.1) || (cl.getD x.1 []).contains y.1 || indE env base ops.toArray y.1 x.1 y.2 x.2
end
section
open Go.RowKit
variable {P:Program} {T:Tab} {σ:PS} {ops:Array Oper} {base:Nat} {ok:Nat→Nat→Bool}
theorem ind_partsE {env:Nat→Option Nat} {eb:Nat} {iy ix:Nat} {y x:Oper} (h:indE env eb ops iy ix y x=true):Ind ops (sepE env eb ops.toList iy ix y x=true) y x:=by
 simp only [indE,Bool.and_eq_true,Bool.not_eq_true',Bool.or_eq_true (_ && _) (sepE _ _ _ _ _ _ _)] at h
 obtain ⟨⟨⟨⟨⟨h1,h2⟩,h3⟩,h4⟩,h6⟩,h5⟩:=h
 refine ⟨?_,?_,?_,?_,?_,?_,?_,?_,?_⟩
 ·intro a b ea eb
  rw [ea,eb] at h1
  simpa using h1
 ·intro a ea
  rw [ea] at h2
  simpa using h2
 ·intro a ea
  rw [ea] at h3
  simpa using h3
 ·intro s hs
  have:=List.all_eq_true.1 h4 s hs
  simpa using this
 ·intro e1 e2
  rcases h5 with h5|h5
  ·simp only [e1,e2,Bool.and_eq_true,Bool.not_eq_true',Bool.and_true,Bool.true_and] at h5
   simp at h5
  ·exact h5
 ·intro e1 e2
  rcases h5 with h5|h5
  ·simp only [e1,e2,Bool.and_eq_true,Bool.not_eq_true',Bool.and_true,Bool.true_and] at h5
   simp at h5
  ·exact h5
 ·intro e1 e2
  rcases h5 with h5|h5
  ·simp only [e1,e2,Bool.and_eq_true,Bool.not_eq_true',Bool.and_true,Bool.true_and] at h5
   simp at h5
  ·exact h5
 ·intro e1 e2
  have:=h6.1
  rw [e1,e2] at this;cases this
 ·intro e1 e2
  have:=h6.2
  rw [e1,e2] at this;cases this
end
section
open Go.RowKit
theorem PWops.bubbleE {P:Program} {T:Tab} {ops:Array Oper} {base:Nat} {ok:Nat→Nat→Bool} {env:Nat→Option Nat} {eb:Nat} {ix:Nat} {x:Oper} {post:List (Nat×Oper)} {Q:PS→Prop} : ∀(pre:List (Nat×Oper)) (σ:PS),(∀y∈pre,(indE env eb ops y.1 ix y.2 x=true∧(sepE env eb ops.toList y.1 ix y.2 x=true→∀j,ok y.1 j=true→ok ix j=true→False))∧y.1≠ix∧ok ix (base+y.1)=false∧ok y.1 (base+ix)=false) →
  PWops P T ops base ok (pre ++ (ix,x) :: post) Q σ→PWops P T ops base ok ((ix,x) :: (pre ++ post)) Q σ
 | [],σ,_,h=>h
 |(iy,y) :: pre,σ,hall,h=>by
  obtain ⟨h1,h2,h3,h4⟩:=hall (iy,y) (by simp)
  have ih:=PWops.bubbleE (P:=P) (T:=T) (ops:=ops) (base:=base) (ok:=ok) (env:=env) (eb:=eb) (ix:=ix) (x:=x) (post:=post) (Q:=Q) pre
  have:PWop P T ops base ok iy y (PWop P T ops base ok ix x (PWops P T ops base ok (pre ++ post) Q)) σ:=
   PWop.mono (fun σ' h' => ih σ' (fun z hz=>hall z (by simp [hz])) h') h
  exact PWop.swap (ind_partsE h1.1) h1.2 h2 h3 h4 this
theorem draw_partsE {env:Nat→Option Nat} {eb:Nat} {ops:List Oper} (h:drawE env eb ops=true):(∀(i:Nat) o,ops[i]? = some o→∀e∈o.after.toList,Region.binds .any e=true→e.on < i) ∧
  (∀(i j:Nat) x y,ops[i]? = some x→ops[j]? = some y→j < i→j∈(clos ops).getD i []∨indE env eb ops.toArray j i y x=true):=by
 have hm:∀(i:Nat) o,ops[i]? = some o→(i,o)∈indexed 0 ops:=by
  have:∀(l:List Oper) (k i:Nat) o,l[i]? = some o→(k+i,o)∈indexed k l:=by
   intro l
   induction l with
   |nil=>intro k i o h;simp at h
   |cons p l ih=>
    intro k i o h
    cases i with
    |zero=>simp at h;subst h;simp [indexed]
    |succ i=>
     simp at h
     have:=ih (k+1) i o h
     simp only [indexed,List.mem_cons]
     right
     rw [show k+(i+1)=k+1+i by omega];exact this
  intro i o h
  have:=this ops 0 i o h
  rwa [Nat.zero_add] at this
 simp only [drawE] at h
 have h':=List.all_eq_true.1 h
 refine ⟨fun i o ho e he hb=>?_,fun i j x y hx hy hji=>?_⟩
 ·have:=h' _ (hm i o ho)
  simp only [Bool.and_eq_true] at this
  have:=List.all_eq_true.1 this.1 e he
  simpa [hb] using this
 ·have:=h' _ (hm i x hx)
  simp only [Bool.and_eq_true] at this
  have:=List.all_eq_true.1 this.2 _ (hm j y hy)
  simp only [hji,decide_true,Bool.not_true,Bool.false_or,Bool.or_eq_true,List.contains_iff_mem] at this
  exact this
end
section
open Go.RowKit
variable {Φ0:Ent} {W:World} {M:Nat} {P:Program} {T:Tab} {ops:List Oper} {base:Nat} {env:Nat→Option Nat}
theorem any_soundE (hT:T=tabOf P) (hbase:base+ops.toArray.size≤1000000) (hall:∀(j:Nat) o,ops.toArray[j]? = some o→dstB M o=true) (hdraw:drawE env base ops=true) {Q:PS→Prop} {Q' : Exit→Act→World→Prop} (hQ:∀σ a w,Q σ→Rel Φ0 W M σ a w→Q' .normal a w) {r:Option Nat} :
  ∀(fuel:Nat) (listed:Array Bool) (σ:PS) (a:Act) (w:World),unlisted listed≤fuel→listed.size=ops.length→(∀(i:Nat) o,ops[i]? = some o→listed.getD i false=true→∀j,depO o j=true→listed.getD j false=true) →
   PWops P T ops.toArray base (okE env ops base) ((indexed 0 ops).filter fun x => !listed.getD x.1 false) Q σ→Rel Φ0 W M σ a w→wpAnyIn (FW r) 0 P .any ops.toArray Q' fuel listed a w:=by
 obtain ⟨hE,hI⟩:=draw_partsE hdraw
 have hsz:∀listed:Array Bool,listed.size=ops.length→listed.size=ops.toArray.size:=fun l h=>by simpa using h
 have fin:∀(listed:Array Bool) (σ:PS) (a:Act) (w:World),listed.size=ops.length→(∀i,i < ops.length→listed.getD i false=true) →
   PWops P T ops.toArray base (okE env ops base) ((indexed 0 ops).filter fun x => !listed.getD x.1 false) Q σ→Rel Φ0 W M σ a w→Q' .normal a w:=by
  intro listed σ a w hs hl h hr
  have:((indexed 0 ops).filter fun x => !listed.getD x.1 false) = []:=by
   rw [List.filter_eq_nil_iff]
   intro x hx
   obtain ⟨-,h2⟩:=indexed_mem 0 ops x hx
   have:x.1 < ops.length:=by have:=(List.getElem?_eq_some_iff.1 h2).1;omega
   simp [hl x.1 this]
  rw [this] at h
  exact hQ σ a w h hr
 have alls:∀listed:Array Bool,listed.size=ops.length→Region.ready .any ops.toArray listed = []→∀i,i < ops.length→listed.getD i false=true:=by
  intro listed hs hr i
  induction i using Nat.strongRecOn with
  |_ i ih=>
   intro hi
   have ho:ops.toArray[i]? = some ops[i]:=by simp [hi]
   cases hl:listed.getD i false with
   |true=>rfl
   |false=>
    have:i∈Region.ready .any ops.toArray listed:=(mem_ready (hsz listed hs)).2 ⟨ops[i],ho,hl,fun j hj=>by
     obtain ⟨e,he,hb,rfl⟩:=depO_iff.1 hj
     have:=hE i ops[i] (by simp [hi]) e he hb
     exact ih e.on this (by omega)⟩
    rw [hr] at this;cases this
 intro fuel
 induction fuel with
 |zero=>
  intro listed σ a w hu hs hcl h hr
  have hl:=unlisted_zero (Nat.le_zero.1 hu)
  rw [hs] at hl
  refine ⟨?_,fin listed σ a w hs hl h hr⟩
  apply List.eq_nil_iff_forall_not_mem.2
  intro i hi
  obtain ⟨o,ho,h1,_⟩:=(mem_ready (hsz listed hs)).1 hi
  rw [hl i (by have:=(Array.getElem?_eq_some_iff.1 ho).1;simpa using this)] at h1
  cases h1
 |succ fuel ih=>
  intro listed σ a w hu hs hcl h hr
  refine ⟨fun hrd=>fin listed σ a w hs (alls listed hs hrd) h hr,fun i hi=>?_⟩
  obtain ⟨o,ho,h1,h2⟩:=(mem_ready (hsz listed hs)).1 hi
  have ho' : ops[i]? = some o:=by simpa using ho
  have hil:i < ops.length:=(List.getElem?_eq_some_iff.1 ho').1
  have hmem:(i,o)∈(indexed 0 ops).filter fun x => !listed.getD x.1 false:=by
   rw [List.mem_filter]
   refine ⟨?_,by simp [h1]⟩
   have:∀(l:List Oper) (k i:Nat) o,l[i]? = some o→(k+i,o)∈indexed k l:=by
    intro l
    induction l with
    |nil=>intro k i o h;simp at h
    |cons p l ih=>
     intro k i o h
     cases i with
     |zero=>simp at h;subst h;simp [indexed]
     |succ i=>
      simp at h
      have:=ih (k+1) i o h
      simp only [indexed,List.mem_cons]
      right
      rw [show k+(i+1)=k+1+i by omega];exact this
   have:=this ops 0 i o ho'
   rwa [Nat.zero_add] at this
  obtain ⟨pre,post,hL⟩:=List.append_of_mem hmem
  have hsort:((indexed 0 ops).filter fun x => !listed.getD x.1 false).Pairwise (fun a b=>a.1 < b.1):=(indexed_sorted 0 ops).filter _
  rw [hL] at h hsort
  rw [List.pairwise_append] at hsort
  obtain ⟨-,hs2,hs3⟩:=hsort
  rw [List.pairwise_cons] at hs2
  have hpre:∀y∈pre,y.1 < i:=fun y hy=>hs3 y hy (i,o) (by simp)
  have hpost:∀y∈post,i < y.1:=fun y hy=>hs2.1 y hy
  have hprem:∀y∈pre,ops[y.1]? = some y.2∧listed.getD y.1 false=false:=by
   intro y hy
   have:y∈(indexed 0 ops).filter fun x => !listed.getD x.1 false:=by rw [hL];simp [hy]
   rw [List.mem_filter] at this
   obtain ⟨-,q⟩:=indexed_mem 0 ops y this.1
   exact ⟨by simpa using q,by simpa using this.2⟩
  have hb:=PWops.bubbleE (P:=P) (T:=T) (base:=base) (ok:=okE env ops base) (env:=env) (eb:=base) (ix:=i) (x:=o) (post:=post) (Q:=Q) pre σ (by
   intro y hy
   obtain ⟨q1,q2⟩:=hprem y hy
   have hlt:=hpre y hy
   have hnc:y.1∉(clos ops).getD i []:=fun hc=>by
    rw [clos_listed hE hcl i o ho' h2 y.1 hc] at q2;cases q2
   have hyl:y.1 < ops.length:=(List.getElem?_eq_some_iff.1 q1).1
   refine ⟨⟨by simpa using (hI i y.1 o y.2 ho' q1 hlt).resolve_left hnc,fun hs j hj1 hj2=>sepE_ok (ops:=ops) q1 ho' (by simpa using hs) j hj1 hj2⟩,by omega,?_,?_⟩
   ·rw [okE,Bool.and_eq_false_iff];left
    simp only [okD,Bool.or_eq_false_iff,decide_eq_false_iff_not]
    refine ⟨⟨by omega,by omega⟩,?_⟩
    rw [Nat.add_sub_cancel_left]
    simpa using hnc
   ·rw [okE,Bool.and_eq_false_iff];left
    simp only [okD,Bool.or_eq_false_iff,decide_eq_false_iff_not]
    refine ⟨⟨by omega,by omega⟩,?_⟩
    rw [Nat.add_sub_cancel_left]
    have:i∉(clos ops).getD y.1 []:=fun hc=>by have:=clos_lt hE y.1 y.2 q1 i hc;omega
    simpa using this) h
  have hset:listed.getD i false=false:=h1
  have hlt:i < listed.size:=by rw [hs];exact hil
  have hrem:pre ++ post=(indexed 0 ops).filter fun x => !(listed.setIfInBounds i true).getD x.1 false:=by
   have e1:((indexed 0 ops).filter fun x => !(listed.setIfInBounds i true).getD x.1 false)=((indexed 0 ops).filter fun x => !listed.getD x.1 false).filter (fun x => !decide (x.1=i)):=by
    rw [List.filter_filter]
    congr 1
    funext x
    rw [getD_set _ _ _ hlt]
    cases listed.getD x.1 false<;>simp
   rw [e1,hL,List.filter_append,List.filter_cons]
   have e2:pre.filter (fun x => !decide (x.1=i))=pre:=List.filter_eq_self.2 (fun y hy=>by have:=hpre y hy;simp;omega)
   have e3:post.filter (fun x => !decide (x.1=i))=post:=List.filter_eq_self.2 (fun y hy=>by have:=hpost y hy;simp;omega)
   rw [e2,e3]
   simp
  have hcl' : ∀(k:Nat) p,ops[k]? = some p→(listed.setIfInBounds i true).getD k false=true→∀j,depO p j=true→(listed.setIfInBounds i true).getD j false=true:=by
   intro k p hp hk j hj
   rw [getD_set _ _ _ hlt] at hk ⊢
   simp only [Bool.or_eq_true,decide_eq_true_eq] at hk ⊢
   rcases hk with rfl|hk
   ·rw [ho'] at hp;cases hp;exact .inr (h2 j hj)
   ·exact .inr (hcl k p hp hk j hj)
  have hstep:=op_sound (Φ0:=Φ0) (W:=W) (M:=M) hT hall (base:=base) hbase ho (K':=wpAnyIn (FW r) 0 P .any ops.toArray Q' fuel (listed.setIfInBounds i true)) (Q':=Q') (fun σ' a' w' hk hr' => ih (listed.setIfInBounds i true) σ' a' w' (by have:=unlisted_set listed i hlt hset;omega) (by simpa using hs) hcl' (by rw [←hrem];exact hk) hr') hb hr
  unfold wpOpIn
  rw [ho]
  simp only
  split
  ·rename_i hw;rw [if_pos hw] at hstep;exact wpIn_of_wp (dstB_defer (hall i o ho)) hstep
  ·rename_i hw;rw [if_neg hw] at hstep;exact ⟨fun _ _=>trivial,hstep⟩
theorem PW.drawE {Q:Exit→PS→Prop} {σ:PS} (hT:T=tabOf P) (hm:P.follows .mixedOrders=true) {id:Nat} (hall2:(ops.all (dstB M) && Nat.ble (1000 * id+ops.length) 1000000)=true) (hd:drawE (envOf σ) (1000 * id) ops=true)
  (h:PWops P T ops.toArray (1000 * id) (okE (envOf σ) ops (1000 * id)) (indexed 0 ops) (Q .normal) σ):PW P M (.region id ops.toArray true) Q σ:=by
 intro Φ0 W a w hr
 have hall2':=hall2
 simp only [Bool.and_eq_true] at hall2'
 obtain ⟨hall,hb0⟩:=hall2'
 have hbase:=Nat.le_of_ble_eq_true hb0
 refine wpIn_region_any hm ?_
 obtain ⟨Φ,μ,ω,hg⟩:=hr
 refine any_soundE (Φ0:=Φ0) (W:=W) (M:=M) (base:=1000 * id) (env:=envOf σ) (Q:=Q .normal) hT (by simpa using hbase) (by
  intro j o hj
  exact List.all_eq_true.1 hall o (mem_of_get (by simpa using hj))) hd (fun σ a w hq hrel=>⟨_,Φ0,W,hq,Later.refl _ _,hrel⟩) _ _ σ a _ ?_ (by simp) ?_ ?_ ⟨Φ,μ,ω,hg.drew⟩
 ·unfold unlisted
  exact Nat.le_trans List.countP_le_length (by simp)
 ·intro i o ho hl
  simp [Array.getD_eq_getD_getElem?,Array.getElem?_replicate] at hl
  split at hl<;>simp_all
 ·have:((indexed 0 ops).filter fun x => !(Array.replicate ops.toArray.size false).getD x.1 false)=indexed 0 ops:=by
   rw [List.filter_eq_self]
   intro x _
   simp [Array.getD_eq_getD_getElem?,Array.getElem?_replicate]
   split<;>rfl
  rw [this]
  exact h
end
section
open Go.RowKit
variable {P:Program} {T:Tab} {σ:PS} {o:Oper} {i base:Nat} {ops:Array Oper} {ok:Nat→Nat→Bool} {rest:List (Nat×Oper)} {K:PS→Prop}
theorem pres_pval {d:Nat} {p:PV} (hg:pguard ops σ o=some true) (hd:o.dst=some d) (hE:presE T (headB ops o.dst) (base+i) (σ.only (ok i)) o.op=some ⟨p,[],none,[]⟩) (hb:σ.freeB (base+i)=true) (k:PWops P T ops base ok rest K (σ.put d p)):PWops P T ops base ok ((i,o) :: rest) K σ:=
 PWops.valEq hg hd hE rfl hb k
theorem PWops.idxM {d n k m e by_ o' : Nat} {z:Int} {zr:List PV} {kk:IntKind} {x ix:Operand} {t:TypeId} {ti:TyI} (hg:pguard ops σ o=some true) (hd:o.dst=some d) (hop:o.op = .indexAddr t x ix) (hx:pev σ x = .msl m o' n k) (hi:pev σ ix = .val (.int kk z)) (ht:T.at t=some ti) (hk:ti.kind = .slice e k by_ zr) (hb:σ.freeB (base+i)=true) (h0:0≤z∧z < n)
  (kn:PWops P T ops base ok rest K (σ.put d (.ptr m (o' + z.toNat * k)))):PWops P T ops base ok ((i,o) :: rest) K σ:=by
 refine pres_pval hg hd ?_ hb kn
 have h1:k=k∧(0:Int)≤z∧z < (n:Int):=⟨rfl,h0.1,h0.2⟩
 simp [hop,presE,pvalA,pval,pev_only,hx,hi,ht,hk,pindexAt,h1]
theorem PWops.idxP {d n k m o' : Nat} {e:TypeId} {ag:Bool} {z:Int} {kk:IntKind} {x ix:Operand} {t:TypeId} {ti:TyI} (hg:pguard ops σ o=some true) (hd:o.dst=some d) (hop:o.op = .indexAddr t x ix) (hx:pev σ x = .ptr m o') (hi:pev σ ix = .val (.int kk z)) (ht:T.at t=some ti) (hk:ti.kind = .arr n e k ag) (hb:σ.freeB (base+i)=true) (h0:0≤z∧z < n)
  (kn:PWops P T ops base ok rest K (σ.put d (.ptr m (o' + z.toNat * k)))):PWops P T ops base ok ((i,o) :: rest) K σ:=by
 refine pres_pval hg hd ?_ hb kn
 have h1:(0:Int)≤z∧z < (n:Int):=h0
 simp [hop,presE,pvalA,pval,pev_only,hx,hi,ht,hk,pindexAt,h1]
theorem ploadO_ptr {hd:Bool} {b:Nat→Option (List PV)} {t:TypeId} {id off:Nat} {bs:List PV} {ti:TyI} (hb:b id=some bs) (ht:T.at t=some ti) (h:ti.agg=true∨∃c,bs[off]? = some c∧c.ownB=false):ploadO T hd b t (.ptr id off)=none:=by
 simp only [ploadO]
 split
 ·rw [hb]
  simp only
  rcases h with h|⟨c,hc,h⟩
  ·split
   ·rw [ht];simp [h]
   ·rfl
  ·rw [hc]
   cases c with
   |sl n k cs own=>cases own with
    |none=>rfl
    |some E=>simp [PV.ownB] at h
   |_=>rfl
 ·rfl
theorem PWops.ldBA {d off m id:Nat} {bs row:List PV} {x:Operand} {t:TypeId} {kd:TD} {zr:List PV} {es:List SK} (hg:pguard ops σ o=some true) (hd:o.dst=some d) (hop:o.op = .load t x) (hx:pev σ x = .ptr id off) (ht:T.at t=some ⟨m,true,kd,zr,es⟩) (hb:σ.freeB (base+i)=true) (hbs:(σ.only (ok i)).b id=some bs) (hl:off+m≤bs.length) (hr:((bs.drop off).take m).map PV.bare=row)
  (kn:PWops P T ops base ok rest K (σ.put d (.agg row))):PWops P T ops base ok ((i,o) :: rest) K σ:=by
 refine PWops.valEq hg hd (p:=.agg (((bs.drop off).take m).map PV.bare)) ?_ (by rw [hr]) hb kn
 have h1:=ploadO_ptr (T:=T) (hd:=headB ops o.dst) (off:=off) hbs ht (.inl rfl)
 simp only [hop,presE,pev_only,hx,h1,pvalA,pval,ht,ploadAt,hbs,asVal,if_true,hl,Option.map_some]
theorem PWops.ldB {d off id:Nat} {bs:List PV} {c:PV} {x:Operand} {t:TypeId} {ti:TyI} (hg:pguard ops σ o=some true) (hd:o.dst=some d) (hop:o.op = .load t x) (hx:pev σ x = .ptr id off) (ht:T.at t=some ti) (ha:ti.agg=false) (hb:σ.freeB (base+i)=true) (hbs:(σ.only (ok i)).b id=some bs) (hc:bs[off]? = some c) (hn:c.ownB=false)
  (kn:PWops P T ops base ok rest K (σ.put d c)):PWops P T ops base ok ((i,o) :: rest) K σ:=by
 refine PWops.valEq hg hd (p:=c) ?_ rfl hb kn
 have h1:=ploadO_ptr (T:=T) (hd:=headB ops o.dst) (off:=off) hbs ht (.inr ⟨c,hc,hn⟩)
 simp only [hop,presE,pev_only,hx,h1,pvalA,pval,ht,ploadAt,hbs,asVal,ha,hc,Bool.false_eq_true,if_false,Option.map_some,PV.bare_of _ hn]
theorem PWops.stB {off id:Nat} {bs new out:List PV} {x y:Operand} {t:TypeId} {ti:TyI} (hg:pguard ops σ o=some true) (hd:o.dst=none) (hop:o.op = .store t x y) (hx:pev σ x = .ptr id off) (hn:(ownPV σ y).ownB=false) (hp:pcells (pev σ y)=some new) (ht:T.at t=some ti) (hb:σ.freeB (base+i)=true) (hbs:(σ.only (ok i)).b id=some bs) (hl:new.length=ti.size∧off+new.length≤bs.length) (hout:splice bs off new=out)
  (kn:PWops P T ops base ok rest K (σ.setb id out)):PWops P T ops base ok ((i,o) :: rest) K σ:=by
 refine PWops.step hg (E:=⟨.tup [],[(id,out)],none,[]⟩) ?_ hb ?_
 ·have hn' : (ownPV (σ.only (ok i)) y).ownB=false:=by cases y<;>exact hn
  have hl1:=hl.1
  have hl2:=hl.2
  have hsp:=splF_eq _ _ _ hl2
  rw [hout] at hsp
  simp only [hop,presE,pev_only,hx,hn',hbs,ht,hp,Bool.false_eq_true,if_false]
  rw [if_pos ⟨hl1,hl2⟩,hsp]
 ·rw [hd];exact kn
theorem PWops.ldAll {d m id:Nat} {cs:List PV} {x:Operand} {t:TypeId} {kd:TD} {zr:List PV} {es:List SK} (hg:pguard ops σ o=some true) (hd:o.dst=some d) (hop:o.op = .load t x) (hx:pev σ x = .ptr id 0) (ht:T.at t=some ⟨m,true,kd,zr,es⟩) (hb:σ.freeB (base+i)=true) (hbs:(σ.only (ok i)).b id=some cs) (hl:cs.length=m) (hr:cs.map PV.bare=cs)
  (kn:PWops P T ops base ok rest K (σ.put d (.agg cs))):PWops P T ops base ok ((i,o) :: rest) K σ:=
 PWops.ldBA hg hd hop hx ht hb hbs (by omega) (by rw [List.drop_zero,List.take_of_length_le (by omega)];exact hr) kn
theorem PWops.stAll {id:Nat} {bs new:List PV} {x y:Operand} {t:TypeId} {ti:TyI} (hg:pguard ops σ o=some true) (hd:o.dst=none) (hop:o.op = .store t x y) (hx:pev σ x = .ptr id 0) (hn:(ownPV σ y).ownB=false) (hv:pev σ y = .agg new) (ht:T.at t=some ti) (hb:σ.freeB (base+i)=true) (hbs:(σ.only (ok i)).b id=some bs) (hl:new.length=ti.size) (hl2:bs.length=ti.size) (ho:new.all PV.one=true) (hr:new.map PV.bare=new)
  (kn:PWops P T ops base ok rest K (σ.setb id new)):PWops P T ops base ok ((i,o) :: rest) K σ:=
 PWops.stB hg hd hop hx hn (new:=new) (by rw [hv];simp only [pcells,ho,if_true,hr]) ht hb hbs ⟨hl,by omega⟩ (by
  have:splice bs 0 new=new:=by unfold splice;simp;omega
  exact this) kn
theorem PWops.boxA {d:Nat} {cs:List PV} {x:Operand} {t:TypeId} (hg:pguard ops σ o=some true) (hd:o.dst=some d) (hop:o.op = .box t x) (hx:pev σ x = .agg cs) (hb:σ.freeB (base+i)=true) (ho:cs.all PV.one=true) (hr:cs.map PV.bare=cs)
  (kn:PWops P T ops base ok rest K ((σ.setb (base+i) cs).put d (.ptr (base+i) 0))):PWops P T ops base ok ((i,o) :: rest) K σ:=by
 refine PWops.step hg (E:=⟨.ptr (base+i) 0,[(base+i,cs)],none,[]⟩) ?_ hb (by rw [hd];exact kn)
 have h1:(σ.only (ok i)).b (base+i)=none∧(σ.only (ok i)).m (base+i)=none:=by
  obtain ⟨q1,q2⟩:=PS.freeB_spec hb
  simp only [PS.only,q1,q2]
  constructor<;>split<;>rfl
 simp only [hop,presE,pev_only,hx,pcells,ho,if_true,hr,h1.1,h1.2]
theorem PWops.ldRB {α:Type} [Inhabited α] {d j k:Nat} {f:α→List PV} {l:List α} {x:Operand} {t:TypeId} {kd:TD} {zr:List PV} {es:List SK} (hg:pguard ops σ o=some true) (hd:o.dst=some d) (hop:o.op = .load t x) (hx:pev σ x = .ep (l.flatMap f) (j * k)) (ht:T.at t=some ⟨k,true,kd,zr,es⟩) (hb:σ.freeB (base+i)=true) (hk:∀x,(f x).length=k) (hl:j < l.length) (hr:∀x,(f x).map PV.bare=f x)
  (kn:PWops P T ops base ok rest K (σ.put d (.agg (f (l.getD j default))))):PWops P T ops base ok ((i,o) :: rest) K σ:=by
 refine PWops.ldA hg hd hop hx ht hb ?_ ?_ kn
 ·rw [flatMap_len hk]
  have:=Nat.mul_le_mul_right k (show j+1≤l.length from hl)
  rw [Nat.succ_mul] at this;exact this
 ·rw [flatMap_row hk (getD_get default hl)];exact hr _
theorem PWops.ldBR {α:Type} [Inhabited α] {d j k id:Nat} {f:α→List PV} {l:List α} {row:List PV} {x:Operand} {t:TypeId} {kd:TD} {zr:List PV} {es:List SK} (hg:pguard ops σ o=some true) (hd:o.dst=some d) (hop:o.op = .load t x) (hx:pev σ x = .ptr id (0+j * k)) (ht:T.at t=some ⟨k,true,kd,zr,es⟩) (hb:σ.freeB (base+i)=true) (hbs:(σ.only (ok i)).b id=some (l.flatMap f)) (hk:∀x,(f x).length=k) (hl:j < l.length) (hr:(f (l.getD j default)).map PV.bare=row)
  (kn:PWops P T ops base ok rest K (σ.put d (.agg row))):PWops P T ops base ok ((i,o) :: rest) K σ:=by
 refine PWops.ldBA hg hd hop hx ht hb hbs ?_ ?_ kn
 ·rw [flatMap_len hk]
  have:=Nat.mul_le_mul_right k (show j+1≤l.length from hl)
  rw [Nat.succ_mul] at this;omega
 ·rw [Nat.zero_add,flatMap_row hk (getD_get default hl)];exact hr
theorem PWops.ldBC {α:Type} [Inhabited α] {d j k r id:Nat} {f:α→List PV} {l:List α} {c:PV} {x:Operand} {t:TypeId} {ti:TyI} (hg:pguard ops σ o=some true) (hd:o.dst=some d) (hop:o.op = .load t x) (hx:pev σ x = .ptr id (0+j * k+r)) (ht:T.at t=some ti) (ha:ti.agg=false) (hb:σ.freeB (base+i)=true) (hbs:(σ.only (ok i)).b id=some (l.flatMap f)) (hk:∀x,(f x).length=k) (hl:j < l.length) (hc:(f (l.getD j default))[r]? = some c) (hn:c.ownB=false)
  (kn:PWops P T ops base ok rest K (σ.put d c)):PWops P T ops base ok ((i,o) :: rest) K σ:=
 PWops.ldB hg hd hop hx ht ha hb hbs (by rw [Nat.zero_add];exact flatMap_get hk (getD_get default hl) hc) hn kn
theorem PWops.lkp {d mid clock kt et:Nat} {x k:Operand} {t:TypeId} {okk:Bool} {es:List (Nat×PV×PV)} {kv:Value} {ti ki ei:TyI} {c:PV} {b:Bool} (hg:pguard ops σ o=some true) (hd:o.dst=some d) (hop:o.op = .lookup t x k okk) (hx:pev σ x = .mref mid) (hm:(σ.only (ok i)).m mid=some (.map es clock)) (hkv:pev σ k = .val kv) (ht:T.at t=some ti) (hk:ti.kind = .map kt et) (hki:T.at kt=some ki) (hei:T.at et=some ei) (hb:σ.freeB (base+i)=true)
  (hget:mget ki ei es kv=some (c,b)) (kn:PWops P T ops base ok rest K (σ.put d (if okk then .tup [c, .val (.bool b)] else c))):PWops P T ops base ok ((i,o) :: rest) K σ:=by
 refine PWops.valEq hg hd (p:=if okk then .tup [c, .val (.bool b)] else c) ?_ rfl hb kn
 simp only [hop,presE,pvalA,pval,pvalX,ht,hk,plookup,pev_only,hx,hkv,hki,hei,pents,hm,hget,Option.map_some]
theorem PWops.mput {mid clock kt et:Nat} {x k v:Operand} {t:TypeId} {es:List (Nat×PV×PV)} {kv:Value} {ti ki:TyI} {X:PMap} {p:PV} (hg:pguard ops σ o=some true) (hd:o.dst=none) (hop:o.op = .mapUpdate t x k v) (hx:pev σ x = .mref mid) (hm:(σ.only (ok i)).m mid=some (.map es clock)) (hkv:pev σ k = .val kv) (ht:T.at t=some ti) (hk:ti.kind = .map kt et) (hki:T.at kt=some ki) (hb:σ.freeB (base+i)=true)
  (hn:(ownPV σ v).ownB=false) (hv:pev σ v=p) (hput:Go.Proofs.YtoamkpgaaanafaaGreat.mput ki es clock kv p=some X) (kn:PWops P T ops base ok rest K (σ.setm mid X)):PWops P T ops base ok ((i,o) :: rest) K σ:=by
 refine PWops.stepM hg (E:=⟨.tup [],[],none,[(mid,X)]⟩) ?_ hb ?_
 ·have hn' : (ownPV (σ.only (ok i)) v).ownB=false:=by cases v<;>exact hn
  simp only [hop,presM,pput,ht,hk,hki,pev_only,hx,mapOf,hm,hkv,ownArg,hn',Bool.false_eq_true,if_false,hv,hput,Option.map_some]
 ·rw [hd];exact kn
theorem PWops.eqA {d:Nat} {op:BinOp} {xs ys:List PV} {x y:Operand} {t yt:TypeId} {ti:TyI} {b:Bool} (hg:pguard ops σ o=some true) (hd:o.dst=some d) (hop:o.op = .binOp op t x y yt) (hx:pev σ x = .agg xs) (hy:pev σ y = .agg ys) (ht:T.at t=some ti) (hb:σ.freeB (base+i)=true) (hne:ti.eqs.isEmpty=false) (h:peqs ti.eqs xs ys=some b) (ho:op = .eql∨op = .neq) (kn:PWops P T ops base ok rest K (σ.put d (.val (.bool (if op = .eql then b else !b))))):PWops P T ops base ok ((i,o) :: rest) K σ:=by
 refine PWops.valEq hg hd (p:=.val (.bool (if op = .eql then b else !b))) ?_ rfl hb kn
 have:pbinA op ti.eqs xs ys=some (.bool (if op = .eql then b else !b)):=by
  unfold pbinA
  cases he:ti.eqs with
  |nil=>rw [he] at hne;cases hne
  |cons k ks=>
   rw [he] at h
   rcases ho with rfl|rfl
   ·simp [h]
   ·simp [h]
 simp only [hop,presE,pvalA,pval,pev_only,hx,hy,ht,this,Option.map_some]
theorem peqs_ints {k:IntKind} : ∀(xs ys:List Int),xs.length=ys.length→peqs (List.replicate xs.length .int) (xs.map fun x=>.val (.int k x)) (ys.map fun x=>.val (.int k x))=some (xs == ys)
 | [],[],_=>rfl
 |x :: xs,y :: ys,h=>by
  have ih:=peqs_ints (k:=k) xs ys (by simpa using h)
  simp only [List.length_cons,List.replicate_succ,List.map_cons,peqs,veq,if_true,ih]
  rfl
 | [],y :: ys,h=>by simp at h
 |x :: xs,[],h=>by simp at h
theorem PWops.shlK {d:Nat} {k k' : IntKind} {x y:Int} {X Y:Operand} {t yt:TypeId} (hg:pguard ops σ o=some true) (hd:o.dst=some d) (hop:o.op = .binOp .shl t X Y yt) (hx:pev σ X = .val (.int k x)) (hy:pev σ Y = .val (.int k' y)) (hb:σ.freeB (base+i)=true) (h0:0≤y) (kn:PWops P T ops base ok rest K (σ.put d (.val (.int k (k.wrap (x * 2 ^ (min y.toNat k.bits))))))):PWops P T ops base ok ((i,o) :: rest) K σ:=by
 refine PWops.valEq hg hd (p:=.val (.int k (k.wrap (x * 2 ^ (min y.toNat k.bits))))) ?_ rfl hb kn
 simp only [hop,presE,pvalA,pval,pev_only,hx,hy,pbin,h0,if_true]
 rfl
theorem PWops.shrK {d:Nat} {k k' : IntKind} {x y:Int} {X Y:Operand} {t yt:TypeId} (hg:pguard ops σ o=some true) (hd:o.dst=some d) (hop:o.op = .binOp .shr t X Y yt) (hx:pev σ X = .val (.int k x)) (hy:pev σ Y = .val (.int k' y)) (hb:σ.freeB (base+i)=true) (h0:0≤y) (kn:PWops P T ops base ok rest K (σ.put d (.val (.int k (x.fdiv (2 ^ (min y.toNat k.bits))))))):PWops P T ops base ok ((i,o) :: rest) K σ:=by
 refine PWops.valEq hg hd (p:=.val (.int k (x.fdiv (2 ^ (min y.toNat k.bits))))) ?_ rfl hb kn
 simp only [hop,presE,pvalA,pval,pev_only,hx,hy,pbin,h0,if_true]
 rfl
theorem PWops.litA {d k e by_:Nat} {cs zr:List PV} {x:Operand} {t:TypeId} {ti:TyI} (hg:pguard ops σ o=some true) (hd:o.dst=some d) (hop:o.op = .buildSlice t 1 #[(0,x)]) (hx:pev σ x = .agg cs) (ht:T.at t=some ti) (hk:ti.kind = .slice e k by_ zr) (hb:σ.freeB (base+i)=true) (hl:cs.length=k) (hz:zr.length=k) (hk2:Nat.ble k 16777216=true) (he:Nat.blt e 1000000=true) (ho:cs.all PV.one=true) (hr:cs.map PV.bare=cs) (kn:PWops P T ops base ok rest K (σ.put d (.sl 1 k cs (some e)))):PWops P T ops base ok ((i,o) :: rest) K σ:=by
 refine PWops.step hg (E:=⟨.sl 1 k cs (some e),[],none,[]⟩) ?_ hb (by rw [hd];exact kn)
 have e1:(List.replicate 1 zr).flatten=zr:=by simp
 have hle:1 * k≤16777216:=by have:=Nat.le_of_ble_eq_true hk2;omega
 have he' : e < 1000000:=by simpa [Nat.blt_eq] using he
 have hs:splF zr 0 cs=cs:=by
  rw [splF_eq _ _ _ (by omega)]
  unfold splice;simp;omega
 simp only [hop,presE,ht,hk,hle,he',and_self,if_true,e1,List.map_cons,List.map_nil,pev_only,hx,pfill,pcells,ho,hr,hl,hz,Nat.zero_mul,Nat.zero_add,Nat.le_refl,and_self,hs,Option.map_some]
end
section
open Go.RowKit
theorem PW.condTe {P:Program} {M:Nat} {Q:Exit→PS→Prop} {σ:PS} {c:Operand} {x y:Code} {b:Bool} (hc:pev σ c = .val (.bool b)) (hb:b=true) (h:PW P M x Q σ):PW P M (.cond c x y) Q σ:=PW.condT (by rw [hc,hb]) h
theorem PW.condFe {P:Program} {M:Nat} {Q:Exit→PS→Prop} {σ:PS} {c:Operand} {x y:Code} {b:Bool} (hc:pev σ c = .val (.bool b)) (hb:b=false) (h:PW P M y Q σ):PW P M (.cond c x y) Q σ:=PW.condF (by rw [hc,hb]) h
end
section
open Go.RowKit
variable {P:Program} {M:Nat} {Q:Exit→PS→Prop} {σ:PS}
def PWin (P:Program) (M:Nat) (c:Code) (Q:Exit→PS→Prop) (σ:PS):Prop:=
 ∀Φ0 W a w,Rel Φ0 W M σ a w→∀b k cs,b.roundOf=(FW Φ0.round).round→(FW Φ0.round).fn b.fn→(FW Φ0.round).room (cs.length+1+0)→∃e a' w',Lift Φ0 W M Q e a' w'∧ArrivesIn (Machine.fenced P (FW Φ0.round)) P (lone (b.atR a (.code c :: .inLoop c :: k)) cs w) b k cs e a' w'
theorem PWin.from {c:Code} (h:PWin P M c Q σ) {Φ0 Φ1:Ent} {W W1:World} (hl:Later Φ0 W Φ1 W1) {a:Act} {w:World} (hr:Rel Φ1 W1 M σ a w):∀b k cs,b.roundOf=(FW Φ0.round).round→(FW Φ0.round).fn b.fn→(FW Φ0.round).room (cs.length+1+0)→∃e a' w',Lift Φ0 W M Q e a' w'∧ArrivesIn (Machine.fenced P (FW Φ0.round)) P (lone (b.atR a (.code c :: .inLoop c :: k)) cs w) b k cs e a' w':=by
 have:=h Φ1 W1 a w hr
 rw [hl.round] at this
 intro b k cs h1 h2 h3
 obtain ⟨e,a',w',hq,harr⟩:=this b k cs h1 h2 h3
 exact ⟨e,a',w',hq.later hl,harr⟩
def LoopU (P:Program) (M:Nat) (c:Code) (Q:Exit→PS→Prop):Exit→PS→Prop
 | .normal,σ=>PWin P M c Q σ
 |e,σ=>Q e σ
theorem PWin.round {c:Code} (h:PW P M c (LoopU P M c Q) σ):PWin P M c Q σ:=by
 intro Φ0 W a w hr b k cs hro hb hroom
 obtain ⟨e,a₁,w₁,⟨σ₁,Φ1,W1,hq,hl,hrel⟩,harr⟩:=h Φ0 W a w hr b (.inLoop c :: k) cs hro hb hroom
 cases e with
 |normal=>
  obtain ⟨e₂,a₂,w₂,hq₂,harr₂⟩:=PWin.from hq hl hrel b k cs hro hb hroom
  exact ⟨e₂,a₂,w₂,hq₂, .of_steps (StepsIn.trans harr (.one (fenced_calm hb hroom rfl) stepR_inLoop)) harr₂⟩
 |exit id=>exact ⟨_,a₁,w₁,⟨σ₁,Φ1,W1,hq,hl,hrel⟩, .pass (x:=.inLoop c) rfl (fun _ _=>.inl (by simp)) harr⟩
 |goto l=>exact ⟨_,a₁,w₁,⟨σ₁,Φ1,W1,hq,hl,hrel⟩, .pass (x:=.inLoop c) rfl (fun _ _=>.inl (by simp)) harr⟩
 |ret=>exact ⟨_,a₁,w₁,⟨σ₁,Φ1,W1,hq,hl,hrel⟩, .pass (x:=.inLoop c) rfl (fun _ _=>.inl (by simp)) harr⟩
 |panic ch=>exact ⟨_,a₁,w₁,⟨σ₁,Φ1,W1,hq,hl,hrel⟩, .pass (x:=.inLoop c) rfl (fun _ _=>.inl (by simp)) harr⟩
 |outgrown=>exact ⟨_,a₁,w₁,⟨σ₁,Φ1,W1,hq,hl,hrel⟩, .pass (x:=.inLoop c) rfl (fun _ _=>.inl (by simp)) harr⟩
theorem loopU_exit {c:Code} {j:Nat} (h:Q (.exit j) σ):LoopU P M c Q (.exit j) σ:=h
theorem loopU_ret {c:Code} (h:Q .ret σ):LoopU P M c Q .ret σ:=h
end
section
open Go.RowKit
variable {κ:Nat→Nat} {S:Nat→Prop} {σ σ' : PS}
theorem SubR.isb {i:Nat} {c:List PV} (h:SubR κ S σ (σ'.setb i c)):SubR κ S σ (σ'.setb i c):=h
theorem SubR.ism {i:Nat} {c:PMap} (h:SubR κ S σ (σ'.setm i c)):SubR κ S σ (σ'.setm i c):=h
theorem SubR.isp {i:Nat} {c:PV} (h:SubR κ S σ (σ'.put i c)):SubR κ S σ (σ'.put i c):=h
end
section
open Go.RowKit
def pu32 (z:Int):PV:=.val (.int .u32 z)
def pu64 (z:Int):PV:=.val (.int .u64 z)
theorem low_pu32 (z:Int):Low (pu32 z)↔True:=low_val _
theorem low_pu64 (z:Int):Low (pu64 z)↔True:=low_val _
theorem len_map {α β:Type} {f:α→β} {l:List α} {n:Nat} (h:l.length=n):(l.map f).length=n:=by rw [List.length_map,h]
theorem bare_map {α:Type} {f:α→PV} (h:∀x,(f x).bare=f x) (l:List α):(l.map f).map PV.bare=l.map f:=by rw [List.map_map];exact List.map_congr_left fun x _=>h x
theorem one_map {α:Type} {f:α→PV} (h:∀x,(f x).one=true) (l:List α):(l.map f).all PV.one=true:=by rw [List.all_map,List.all_eq_true];exact fun x _=>h x
theorem low_map {α:Type} {f:α→PV} (h:∀x,Low (f x)) (l:List α):∀c∈l.map f,Low c:=by
 intro c hc
 obtain ⟨z,-,rfl⟩:=List.mem_map.1 hc
 exact h z
theorem RenQL.lowE {κ:Nat→Nat} {S:Nat→Prop} {qs ps:List PV} (h:qs=ps) (hl:∀p∈ps,Low p):RenQL κ S qs ps:=by subst h;exact RenQL.low hl
end
section
open Go.RowKit
variable {P:Program} {T:Tab} {σ:PS} {o:Oper} {i base:Nat} {ops:Array Oper} {ok:Nat→Nat→Bool} {rest:List (Nat×Oper)} {K:PS→Prop}
def notI64:IntKind→Bool
 | .i64=>false
 |_=>true
theorem PWops.arU {d:Nat} {k:IntKind} {z:Int} (hk:isArith o.op=true) (hg:pguard ops σ o=some true) (hd:o.dst=some d) (hE:feff (presE T (headB ops o.dst) (base+i) (σ.only (ok i)) o.op)=some (.val (.int k z))) (hn:notI64 k=true) (hb:σ.freeB (base+i)=true) (kn:PWops P T ops base ok rest K (σ.put d (.val (.int k z)))):PWops P T ops base ok ((i,o) :: rest) K σ:=PWops.val hg hd hE hb kn
theorem PWops.idxE1 {d n:Nat} {e:TypeId} {ag:Bool} {z:Int} {cs:List PV} {kk:IntKind} {x ix:Operand} {t:TypeId} {ti:TyI} (hg:pguard ops σ o=some true) (hd:o.dst=some d) (hop:o.op = .indexAddr t x ix) (hx:pev σ x = .ep cs 0) (hi:pev σ ix = .val (.int kk z)) (ht:T.at t=some ti) (hk:ti.kind = .arr n e 1 ag) (hb:σ.freeB (base+i)=true) (h0:0≤z∧z < n)
  (kn:PWops P T ops base ok rest K (σ.put d (.ep cs z.toNat))):PWops P T ops base ok ((i,o) :: rest) K σ:=by
 refine pres_pval hg hd ?_ hb kn
 have h1:(0:Int)≤z∧z < (n:Int):=h0
 simp [hop,presE,pvalA,pval,pev_only,hx,hi,ht,hk,pindexAt,h1]
theorem PWops.idxP1 {d n m:Nat} {e:TypeId} {ag:Bool} {z:Int} {kk:IntKind} {x ix:Operand} {t:TypeId} {ti:TyI} (hg:pguard ops σ o=some true) (hd:o.dst=some d) (hop:o.op = .indexAddr t x ix) (hx:pev σ x = .ptr m 0) (hi:pev σ ix = .val (.int kk z)) (ht:T.at t=some ti) (hk:ti.kind = .arr n e 1 ag) (hb:σ.freeB (base+i)=true) (h0:0≤z∧z < n)
  (kn:PWops P T ops base ok rest K (σ.put d (.ptr m z.toNat))):PWops P T ops base ok ((i,o) :: rest) K σ:=by
 refine pres_pval hg hd ?_ hb kn
 have h1:(0:Int)≤z∧z < (n:Int):=h0
 simp [hop,presE,pvalA,pval,pev_only,hx,hi,ht,hk,pindexAt,h1]
theorem PWops.idxV {α:Type} [Inhabited α] {d n:Nat} {e:TypeId} {z:Int} {f:α→PV} {l:List α} {q:PV} {kk:IntKind} {x ix:Operand} {t:TypeId} {ti:TyI} (hg:pguard ops σ o=some true) (hd:o.dst=some d) (hop:o.op = .index t x ix) (hx:pev σ x = .agg (l.map f)) (hi:pev σ ix = .val (.int kk z)) (ht:T.at t=some ti) (hk:ti.kind = .arr n e 1 false) (hb:σ.freeB (base+i)=true) (h0:0≤z∧z < n∧z < l.length) (hq:fval (f (l.getD z.toNat default)).bare=some q)
  (kn:PWops P T ops base ok rest K (σ.put d q)):PWops P T ops base ok ((i,o) :: rest) K σ:=by
 refine PWops.valEq hg hd (p:=(f (l.getD z.toNat default)).bare) ?_ (fval_eq hq) hb kn
 have h1:(0:Int)≤z∧z < (n:Int):=⟨h0.1,h0.2.1⟩
 have h2:(l.map f)[z.toNat]? = some (f (l.getD z.toNat default)):=map_get (getD_get default (by omega))
 simp [hop,presE,pvalA,pval,pev_only,hx,hi,ht,hk,pindexV,h1,asVal,h2]
theorem PWops.ldG {d m:Nat} {cs:List PV} {x:Operand} {t:TypeId} {kd:TD} {zr:List PV} {es:List SK} (hg:pguard ops σ o=some true) (hd:o.dst=some d) (hop:o.op = .load t x) (hx:pev σ x = .ep cs 0) (ht:T.at t=some ⟨m,true,kd,zr,es⟩) (hb:σ.freeB (base+i)=true) (hl:cs.length=m) (hr:cs.map PV.bare=cs)
  (kn:PWops P T ops base ok rest K (σ.put d (.agg cs))):PWops P T ops base ok ((i,o) :: rest) K σ:=by
 refine PWops.ldA hg hd hop hx ht hb (by omega) ?_ kn
 rw [List.drop_zero,List.take_of_length_le (by omega)];exact hr
theorem PWops.ldMB {α:Type} [Inhabited α] {d id off:Nat} {f:α→PV} {l:List α} {q:PV} {x:Operand} {t:TypeId} {ti:TyI} (hg:pguard ops σ o=some true) (hd:o.dst=some d) (hop:o.op = .load t x) (hx:pev σ x = .ptr id off) (ht:T.at t=some ti) (ha:ti.agg=false) (hb:σ.freeB (base+i)=true) (hbs:(σ.only (ok i)).b id=some (l.map f)) (hl:off < l.length) (hq:fval (f (l.getD off default))=some q) (hn:(f (l.getD off default)).ownB=false)
  (kn:PWops P T ops base ok rest K (σ.put d q)):PWops P T ops base ok ((i,o) :: rest) K σ:=
 PWops.ldB hg hd hop hx ht ha hb hbs (map_get (getD_get default hl)) hn (by rw [fval_eq hq];exact kn)
theorem set_map {α β:Type} (f:α→β) (l:List α) (j:Nat) (x:α):(l.map f).set j (f x)=(l.set j x).map f:=by
 rw [List.map_set]
theorem splice_one {bs:List PV} {off:Nat} {c:PV} (h:off < bs.length):splice bs off [c]=bs.set off c:=by
 unfold splice
 rw [List.set_eq_take_append_cons_drop,if_pos h];simp
theorem PWops.stMB {α:Type} {id off:Nat} {f:α→PV} {l:List α} {v:α} {x y:Operand} {t:TypeId} {ti:TyI} (hg:pguard ops σ o=some true) (hd:o.dst=none) (hop:o.op = .store t x y) (hx:pev σ x = .ptr id off) (hn:(ownPV σ y).ownB=false) (ht:T.at t=some ti) (hb:σ.freeB (base+i)=true) (hbs:(σ.only (ok i)).b id=some (l.map f)) (hp:pcells (pev σ y)=some [f v]) (hs:ti.size=1) (hl:off < l.length)
  (kn:PWops P T ops base ok rest K (σ.setb id ((l.set off v).map f))):PWops P T ops base ok ((i,o) :: rest) K σ:=by
 refine PWops.stB hg hd hop hx hn hp ht hb hbs ⟨by rw [hs];rfl,by simp;omega⟩ ?_ kn
 rw [splice_one (by simpa using hl),set_map]
theorem PWops.slcP {d id o' n k h l:Nat} {e:TypeId} {ag:Bool} {x:Operand} {lo hi:Option Operand} {t:TypeId} {ti:TyI} (hg:pguard ops σ o=some true) (hd:o.dst=some d) (hop:o.op = .slice t x lo hi none) (hx:pev σ x = .ptr id o') (ht:T.at t=some ti) (hk:ti.kind = .arr n e k ag) (hb:σ.freeB (base+i)=true) (hh:pbound n n (hi.map (pev σ))=some h) (hlo:pbound 0 h (lo.map (pev σ))=some l) (hn:n≤1000000000)
  (kn:PWops P T ops base ok rest K (σ.put d (.msl id (o' + l * k) (h - l) k))):PWops P T ops base ok ((i,o) :: rest) K σ:=by
 refine pres_pval hg hd ?_ hb kn
 have e1:∀x:Operand,pev (σ.only (ok i)) x=pev σ x:=fun x=>pev_only ..
 have e2:∀x:Option Operand,x.map (pev (σ.only (ok i)))=x.map (pev σ):=fun x=>by cases x<;>simp [e1]
 simp [hop,presE,pvalA,pval,pev_only,e2,hx,ht,hk,pslice,hh,hlo,hn]
end
section
open Go.RowKit
theorem Flat.lowF {p:PV} (h:Flat p):Low p:=by
 induction h with
 |undef=>exact .undef
 |val v=>exact .val v
 |nilsl=>exact .nilsl
 |agg cs h ih=>exact .agg cs ih
 |tup cs h ih=>exact .tup cs ih
end
section
open Go.RowKit
variable {P:Program} {T:Tab} {σ:PS} {o:Oper} {i base:Nat} {ops:Array Oper} {ok:Nat→Nat→Bool} {rest:List (Nat×Oper)} {K:PS→Prop}
theorem PWops.valE {d:Nat} {p q:PV} (hg:pguard ops σ o=some true) (hd:o.dst=some d) (hE:feff (presE T (headB ops o.dst) (base+i) (σ.only (ok i)) o.op)=some p) (e:p=q) (hb:σ.freeB (base+i)=true) (k:PWops P T ops base ok rest K (σ.put d q)):PWops P T ops base ok ((i,o) :: rest) K σ:=
 PWops.val hg hd (by rw [hE,e]) hb k
theorem PWops.cvI {d:Nat} {z:Int} {x:Operand} {ts td:TypeId} (hop:o.op = .convert ts td x) (hg:pguard ops σ o=some true) (hd:o.dst=some d) (hE:feff (presE T (headB ops o.dst) (base+i) (σ.only (ok i)) o.op)=some (.val (.int .i64 (IntKind.i64.wrap z)))) (h1 : -9223372036854775808≤z) (h2:z≤9223372036854775807) (hb:σ.freeB (base+i)=true) (k:PWops P T ops base ok rest K (σ.put d (.val (.int .i64 z)))):PWops P T ops base ok ((i,o) :: rest) K σ:=
 PWops.valE hg hd hE (by rw [wrap64_id h1 h2]) hb k
end
section
open Go.RowKit
theorem ren_eqlow {κ:Nat→Nat} {S:Nat→Prop} {q p:PV} (h:q=p) (hl:Low q):Ren κ S q p:=by subst h;exact .low _ hl
def okF (env:Nat→Option Nat) (ban:Nat→Nat→Bool) (ops:List Oper) (base i id:Nat):Bool:=okD (clos ops) base ops.length i id && ((match (ops[i]?).bind (tgtOf env base ops) with|some k=>Nat.beq id k|none=>true) && !ban i id)
def sepF (env:Nat→Option Nat) (ban:Nat→Nat→Bool) (base:Nat) (ops:List Oper) (iy ix:Nat) (y x:Oper):Bool:=
 (match tgtOf env base ops y with|some k => !okF env ban ops base ix k|none=>false) || (match tgtOf env base ops x with|some k => !okF env ban ops base iy k|none=>false)
theorem sepF_ok {env:Nat→Option Nat} {ban:Nat→Nat→Bool} {ops:List Oper} {base iy ix:Nat} {y x:Oper} (hy:ops[iy]? = some y) (hx:ops[ix]? = some x) (hs:sepF env ban base ops iy ix y x=true) (j:Nat) (h1:okF env ban ops base iy j=true) (h2:okF env ban ops base ix j=true):False:=by
 have res:∀(i:Nat) o k,ops[i]? = some o→okF env ban ops base i j=true→tgtOf env base ops o=some k→j=k:=by
  intro i o k ho h hr
  simp only [okF,ho,Option.bind_some,hr,Bool.and_eq_true] at h
  exact Nat.eq_of_beq_eq_true h.2.1
 simp only [sepF,Bool.or_eq_true] at hs
 rcases hs with hs|hs
 ·cases hr:tgtOf env base ops y with
  |none=>rw [hr] at hs;cases hs
  |some k=>
   rw [hr] at hs
   have e:=res iy y k hy h1 hr
   subst e
   simp [h2] at hs
 ·cases hr:tgtOf env base ops x with
  |none=>rw [hr] at hs;cases hs
  |some k=>
   rw [hr] at hs
   have e:=res ix x k hx h2 hr
   subst e
   simp [h1] at hs
def indF (env:Nat→Option Nat) (ban:Nat→Nat→Bool) (base:Nat) (ops:Array Oper) (iy ix:Nat) (y x:Oper):Bool:=
 (match y.dst,x.dst with|some a,some b=>a != b|_,_=>true) &&
 (match y.dst with|some a => !(tmpsOf x.op.operands.toList).contains a && !(guardT ops x).contains a|none=>true) &&
 (match x.dst with|some b => !(tmpsOf y.op.operands.toList).contains b && !(guardT ops y).contains b|none=>true) &&
 (takesB (headB ops y.dst) y).all (fun s => !(takesB (headB ops x.dst) x).contains s) &&
 (!(mapW (headB ops y.dst) y && mapU x) && !(mapW (headB ops x.dst) x && mapU y)) &&
 ((!(storeB y && usesBox x) && !(storeB x && usesBox y) && !(isStore (headB ops y.dst) y && isStore (headB ops x.dst) x)) || sepF env ban base ops.toList iy ix y x)
def drawF (env:Nat→Option Nat) (ban:Nat→Nat→Bool) (base:Nat) (ops:List Oper):Bool:=
 let cl:=clos ops
 (indexed 0 ops).all fun x=>x.2.after.toList.all (fun e => !Region.binds .any e || decide (e.on < x.1)) &&
  (indexed 0 ops).all fun y => !decide (y.1 < x.1) || (cl.getD x.1 []).contains y.1 || indF env ban base ops.toArray y.1 x.1 y.2 x.2
end
section
open Go.RowKit
variable {P:Program} {T:Tab} {σ:PS} {ops:Array Oper} {base:Nat} {ok:Nat→Nat→Bool}
theorem ind_partsF {env:Nat→Option Nat} {ban:Nat→Nat→Bool} {eb:Nat} {iy ix:Nat} {y x:Oper} (h:indF env ban eb ops iy ix y x=true):Ind ops (sepF env ban eb ops.toList iy ix y x=true) y x:=by
 simp only [indF,Bool.and_eq_true,Bool.not_eq_true',Bool.or_eq_true (_ && _) (sepF _ _ _ _ _ _ _ _)] at h
 obtain ⟨⟨⟨⟨⟨h1,h2⟩,h3⟩,h4⟩,h6⟩,h5⟩:=h
 refine ⟨?_,?_,?_,?_,?_,?_,?_,?_,?_⟩
 ·intro a b ea eb
  rw [ea,eb] at h1
  simpa using h1
 ·intro a ea
  rw [ea] at h2
  simpa using h2
 ·intro a ea
  rw [ea] at h3
  simpa using h3
 ·intro s hs
  have:=List.all_eq_true.1 h4 s hs
  simpa using this
 ·intro e1 e2
  rcases h5 with h5|h5
  ·simp only [e1,e2,Bool.and_eq_true,Bool.not_eq_true',Bool.and_true,Bool.true_and] at h5
   simp at h5
  ·exact h5
 ·intro e1 e2
  rcases h5 with h5|h5
  ·simp only [e1,e2,Bool.and_eq_true,Bool.not_eq_true',Bool.and_true,Bool.true_and] at h5
   simp at h5
  ·exact h5
 ·intro e1 e2
  rcases h5 with h5|h5
  ·simp only [e1,e2,Bool.and_eq_true,Bool.not_eq_true',Bool.and_true,Bool.true_and] at h5
   simp at h5
  ·exact h5
 ·intro e1 e2
  have:=h6.1
  rw [e1,e2] at this;cases this
 ·intro e1 e2
  have:=h6.2
  rw [e1,e2] at this;cases this
end
section
open Go.RowKit
theorem PWops.bubbleF {P:Program} {T:Tab} {ops:Array Oper} {base:Nat} {ok:Nat→Nat→Bool} {env:Nat→Option Nat} {ban:Nat→Nat→Bool} {eb:Nat} {ix:Nat} {x:Oper} {post:List (Nat×Oper)} {Q:PS→Prop} : ∀(pre:List (Nat×Oper)) (σ:PS),(∀y∈pre,(indF env ban eb ops y.1 ix y.2 x=true∧(sepF env ban eb ops.toList y.1 ix y.2 x=true→∀j,ok y.1 j=true→ok ix j=true→False))∧y.1≠ix∧ok ix (base+y.1)=false∧ok y.1 (base+ix)=false) →
  PWops P T ops base ok (pre ++ (ix,x) :: post) Q σ→PWops P T ops base ok ((ix,x) :: (pre ++ post)) Q σ
 | [],σ,_,h=>h
 |(iy,y) :: pre,σ,hall,h=>by
  obtain ⟨h1,h2,h3,h4⟩:=hall (iy,y) (by simp)
  have ih:=PWops.bubbleF (P:=P) (T:=T) (ops:=ops) (base:=base) (ok:=ok) (env:=env) (ban:=ban) (eb:=eb) (ix:=ix) (x:=x) (post:=post) (Q:=Q) pre
  have:PWop P T ops base ok iy y (PWop P T ops base ok ix x (PWops P T ops base ok (pre ++ post) Q)) σ:=
   PWop.mono (fun σ' h' => ih σ' (fun z hz=>hall z (by simp [hz])) h') h
  exact PWop.swap (ind_partsF h1.1) h1.2 h2 h3 h4 this
theorem draw_partsF {env:Nat→Option Nat} {ban:Nat→Nat→Bool} {eb:Nat} {ops:List Oper} (h:drawF env ban eb ops=true):(∀(i:Nat) o,ops[i]? = some o→∀e∈o.after.toList,Region.binds .any e=true→e.on < i) ∧
  (∀(i j:Nat) x y,ops[i]? = some x→ops[j]? = some y→j < i→j∈(clos ops).getD i []∨indF env ban eb ops.toArray j i y x=true):=by
 have hm:∀(i:Nat) o,ops[i]? = some o→(i,o)∈indexed 0 ops:=by
  have:∀(l:List Oper) (k i:Nat) o,l[i]? = some o→(k+i,o)∈indexed k l:=by
   intro l
   induction l with
   |nil=>intro k i o h;simp at h
   |cons p l ih=>
    intro k i o h
    cases i with
    |zero=>simp at h;subst h;simp [indexed]
    |succ i=>
     simp at h
     have:=ih (k+1) i o h
     simp only [indexed,List.mem_cons]
     right
     rw [show k+(i+1)=k+1+i by omega];exact this
  intro i o h
  have:=this ops 0 i o h
  rwa [Nat.zero_add] at this
 simp only [drawF] at h
 have h':=List.all_eq_true.1 h
 refine ⟨fun i o ho e he hb=>?_,fun i j x y hx hy hji=>?_⟩
 ·have:=h' _ (hm i o ho)
  simp only [Bool.and_eq_true] at this
  have:=List.all_eq_true.1 this.1 e he
  simpa [hb] using this
 ·have:=h' _ (hm i x hx)
  simp only [Bool.and_eq_true] at this
  have:=List.all_eq_true.1 this.2 _ (hm j y hy)
  simp only [hji,decide_true,Bool.not_true,Bool.false_or,Bool.or_eq_true,List.contains_iff_mem] at this
  exact this
end
section
open Go.RowKit
variable {Φ0:Ent} {W:World} {M:Nat} {P:Program} {T:Tab} {ops:List Oper} {base:Nat} {env:Nat→Option Nat} {ban:Nat→Nat→Bool}
theorem any_soundF (hT:T=tabOf P) (hbase:base+ops.toArray.size≤1000000) (hall:∀(j:Nat) o,ops.toArray[j]? = some o→dstB M o=true) (hdraw:drawF env ban base ops=true) {Q:PS→Prop} {Q' : Exit→Act→World→Prop} (hQ:∀σ a w,Q σ→Rel Φ0 W M σ a w→Q' .normal a w) {r:Option Nat} :
  ∀(fuel:Nat) (listed:Array Bool) (σ:PS) (a:Act) (w:World),unlisted listed≤fuel→listed.size=ops.length→(∀(i:Nat) o,ops[i]? = some o→listed.getD i false=true→∀j,depO o j=true→listed.getD j false=true) →
   PWops P T ops.toArray base (okF env ban ops base) ((indexed 0 ops).filter fun x => !listed.getD x.1 false) Q σ→Rel Φ0 W M σ a w→wpAnyIn (FW r) 0 P .any ops.toArray Q' fuel listed a w:=by
 obtain ⟨hE,hI⟩:=draw_partsF hdraw
 have hsz:∀listed:Array Bool,listed.size=ops.length→listed.size=ops.toArray.size:=fun l h=>by simpa using h
 have fin:∀(listed:Array Bool) (σ:PS) (a:Act) (w:World),listed.size=ops.length→(∀i,i < ops.length→listed.getD i false=true) →
   PWops P T ops.toArray base (okF env ban ops base) ((indexed 0 ops).filter fun x => !listed.getD x.1 false) Q σ→Rel Φ0 W M σ a w→Q' .normal a w:=by
  intro listed σ a w hs hl h hr
  have:((indexed 0 ops).filter fun x => !listed.getD x.1 false) = []:=by
   rw [List.filter_eq_nil_iff]
   intro x hx
   obtain ⟨-,h2⟩:=indexed_mem 0 ops x hx
   have:x.1 < ops.length:=by have:=(List.getElem?_eq_some_iff.1 h2).1;omega
   simp [hl x.1 this]
  rw [this] at h
  exact hQ σ a w h hr
 have alls:∀listed:Array Bool,listed.size=ops.length→Region.ready .any ops.toArray listed = []→∀i,i < ops.length→listed.getD i false=true:=by
  intro listed hs hr i
  induction i using Nat.strongRecOn with
  |_ i ih=>
   intro hi
   have ho:ops.toArray[i]? = some ops[i]:=by simp [hi]
   cases hl:listed.getD i false with
   |true=>rfl
   |false=>
    have:i∈Region.ready .any ops.toArray listed:=(mem_ready (hsz listed hs)).2 ⟨ops[i],ho,hl,fun j hj=>by
     obtain ⟨e,he,hb,rfl⟩:=depO_iff.1 hj
     have:=hE i ops[i] (by simp [hi]) e he hb
     exact ih e.on this (by omega)⟩
    rw [hr] at this;cases this
 intro fuel
 induction fuel with
 |zero=>
  intro listed σ a w hu hs hcl h hr
  have hl:=unlisted_zero (Nat.le_zero.1 hu)
  rw [hs] at hl
  refine ⟨?_,fin listed σ a w hs hl h hr⟩
  apply List.eq_nil_iff_forall_not_mem.2
  intro i hi
  obtain ⟨o,ho,h1,_⟩:=(mem_ready (hsz listed hs)).1 hi
  rw [hl i (by have:=(Array.getElem?_eq_some_iff.1 ho).1;simpa using this)] at h1
  cases h1
 |succ fuel ih=>
  intro listed σ a w hu hs hcl h hr
  refine ⟨fun hrd=>fin listed σ a w hs (alls listed hs hrd) h hr,fun i hi=>?_⟩
  obtain ⟨o,ho,h1,h2⟩:=(mem_ready (hsz listed hs)).1 hi
  have ho' : ops[i]? = some o:=by simpa using ho
  have hil:i < ops.length:=(List.getElem?_eq_some_iff.1 ho').1
  have hmem:(i,o)∈(indexed 0 ops).filter fun x => !listed.getD x.1 false:=by
   rw [List.mem_filter]
   refine ⟨?_,by simp [h1]⟩
   have:∀(l:List Oper) (k i:Nat) o,l[i]? = some o→(k+i,o)∈indexed k l:=by
    intro l
    induction l with
    |nil=>intro k i o h;simp at h
    |cons p l ih=>
     intro k i o h
     cases i with
     |zero=>simp at h;subst h;simp [indexed]
     |succ i=>
      simp at h
      have:=ih (k+1) i o h
      simp only [indexed,List.mem_cons]
      right
      rw [show k+(i+1)=k+1+i by omega];exact this
   have:=this ops 0 i o ho'
   rwa [Nat.zero_add] at this
  obtain ⟨pre,post,hL⟩:=List.append_of_mem hmem
  have hsort:((indexed 0 ops).filter fun x => !listed.getD x.1 false).Pairwise (fun a b=>a.1 < b.1):=(indexed_sorted 0 ops).filter _
  rw [hL] at h hsort
  rw [List.pairwise_append] at hsort
  obtain ⟨-,hs2,hs3⟩:=hsort
  rw [List.pairwise_cons] at hs2
  have hpre:∀y∈pre,y.1 < i:=fun y hy=>hs3 y hy (i,o) (by simp)
  have hpost:∀y∈post,i < y.1:=fun y hy=>hs2.1 y hy
  have hprem:∀y∈pre,ops[y.1]? = some y.2∧listed.getD y.1 false=false:=by
   intro y hy
   have:y∈(indexed 0 ops).filter fun x => !listed.getD x.1 false:=by rw [hL];simp [hy]
   rw [List.mem_filter] at this
   obtain ⟨-,q⟩:=indexed_mem 0 ops y this.1
   exact ⟨by simpa using q,by simpa using this.2⟩
  have hb:=PWops.bubbleF (P:=P) (T:=T) (base:=base) (ok:=okF env ban ops base) (env:=env) (ban:=ban) (eb:=base) (ix:=i) (x:=o) (post:=post) (Q:=Q) pre σ (by
   intro y hy
   obtain ⟨q1,q2⟩:=hprem y hy
   have hlt:=hpre y hy
   have hnc:y.1∉(clos ops).getD i []:=fun hc=>by
    rw [clos_listed hE hcl i o ho' h2 y.1 hc] at q2;cases q2
   have hyl:y.1 < ops.length:=(List.getElem?_eq_some_iff.1 q1).1
   refine ⟨⟨by simpa using (hI i y.1 o y.2 ho' q1 hlt).resolve_left hnc,fun hs j hj1 hj2=>sepF_ok (ops:=ops) q1 ho' (by simpa using hs) j hj1 hj2⟩,by omega,?_,?_⟩
   ·rw [okF,Bool.and_eq_false_iff];left
    simp only [okD,Bool.or_eq_false_iff,decide_eq_false_iff_not]
    refine ⟨⟨by omega,by omega⟩,?_⟩
    rw [Nat.add_sub_cancel_left]
    simpa using hnc
   ·rw [okF,Bool.and_eq_false_iff];left
    simp only [okD,Bool.or_eq_false_iff,decide_eq_false_iff_not]
    refine ⟨⟨by omega,by omega⟩,?_⟩
    rw [Nat.add_sub_cancel_left]
    have:i∉(clos ops).getD y.1 []:=fun hc=>by have:=clos_lt hE y.1 y.2 q1 i hc;omega
    simpa using this) h
  have hset:listed.getD i false=false:=h1
  have hlt:i < listed.size:=by rw [hs];exact hil
  have hrem:pre ++ post=(indexed 0 ops).filter fun x => !(listed.setIfInBounds i true).getD x.1 false:=by
   have e1:((indexed 0 ops).filter fun x => !(listed.setIfInBounds i true).getD x.1 false)=((indexed 0 ops).filter fun x => !listed.getD x.1 false).filter (fun x => !decide (x.1=i)):=by
    rw [List.filter_filter]
    congr 1
    funext x
    rw [getD_set _ _ _ hlt]
    cases listed.getD x.1 false<;>simp
   rw [e1,hL,List.filter_append,List.filter_cons]
   have e2:pre.filter (fun x => !decide (x.1=i))=pre:=List.filter_eq_self.2 (fun y hy=>by have:=hpre y hy;simp;omega)
   have e3:post.filter (fun x => !decide (x.1=i))=post:=List.filter_eq_self.2 (fun y hy=>by have:=hpost y hy;simp;omega)
   rw [e2,e3]
   simp
  have hcl' : ∀(k:Nat) p,ops[k]? = some p→(listed.setIfInBounds i true).getD k false=true→∀j,depO p j=true→(listed.setIfInBounds i true).getD j false=true:=by
   intro k p hp hk j hj
   rw [getD_set _ _ _ hlt] at hk ⊢
   simp only [Bool.or_eq_true,decide_eq_true_eq] at hk ⊢
   rcases hk with rfl|hk
   ·rw [ho'] at hp;cases hp;exact .inr (h2 j hj)
   ·exact .inr (hcl k p hp hk j hj)
  have hstep:=op_sound (Φ0:=Φ0) (W:=W) (M:=M) hT hall (base:=base) hbase ho (K':=wpAnyIn (FW r) 0 P .any ops.toArray Q' fuel (listed.setIfInBounds i true)) (Q':=Q') (fun σ' a' w' hk hr' => ih (listed.setIfInBounds i true) σ' a' w' (by have:=unlisted_set listed i hlt hset;omega) (by simpa using hs) hcl' (by rw [←hrem];exact hk) hr') hb hr
  unfold wpOpIn
  rw [ho]
  simp only
  split
  ·rename_i hw;rw [if_pos hw] at hstep;exact wpIn_of_wp (dstB_defer (hall i o ho)) hstep
  ·rename_i hw;rw [if_neg hw] at hstep;exact ⟨fun _ _=>trivial,hstep⟩
theorem PW.drawF (ban:Nat→Nat→Bool) {Q:Exit→PS→Prop} {σ:PS} (hT:T=tabOf P) (hm:P.follows .mixedOrders=true) {id:Nat} (hall2:(ops.all (dstB M) && Nat.ble (1000 * id+ops.length) 1000000)=true) (hd:drawF (envOf σ) ban (1000 * id) ops=true)
  (h:PWops P T ops.toArray (1000 * id) (okF (envOf σ) ban ops (1000 * id)) (indexed 0 ops) (Q .normal) σ):PW P M (.region id ops.toArray true) Q σ:=by
 intro Φ0 W a w hr
 have hall2':=hall2
 simp only [Bool.and_eq_true] at hall2'
 obtain ⟨hall,hb0⟩:=hall2'
 have hbase:=Nat.le_of_ble_eq_true hb0
 refine wpIn_region_any hm ?_
 obtain ⟨Φ,μ,ω,hg⟩:=hr
 refine any_soundF (Φ0:=Φ0) (W:=W) (M:=M) (base:=1000 * id) (env:=envOf σ) (ban:=ban) (Q:=Q .normal) hT (by simpa using hbase) (by
  intro j o hj
  exact List.all_eq_true.1 hall o (mem_of_get (by simpa using hj))) hd (fun σ a w hq hrel=>⟨_,Φ0,W,hq,Later.refl _ _,hrel⟩) _ _ σ a _ ?_ (by simp) ?_ ?_ ⟨Φ,μ,ω,hg.drew⟩
 ·unfold unlisted
  exact Nat.le_trans List.countP_le_length (by simp)
 ·intro i o ho hl
  simp [Array.getD_eq_getD_getElem?,Array.getElem?_replicate] at hl
  split at hl<;>simp_all
 ·have:((indexed 0 ops).filter fun x => !(Array.replicate ops.toArray.size false).getD x.1 false)=indexed 0 ops:=by
   rw [List.filter_eq_self]
   intro x _
   simp [Array.getD_eq_getD_getElem?,Array.getElem?_replicate]
   split<;>rfl
  rw [this]
  exact h
end
section
open Go.RowKit
open Classical in
noncomputable def freshI (I0 Φ:Imm) (ω:Nat→Option Who):Imm:=fun b o=>if ∃p,ω b=some p then I0 b o else Φ b o
theorem freshI_eq {I0 Φ:Imm} {ω:Nat→Option Who} {b o:Nat} (h:∀p,ω b≠some p):freshI I0 Φ ω b o=Φ b o:=by
 unfold freshI
 rw [if_neg]
 rintro ⟨p,e⟩
 exact h p e
theorem freshI_own {I0 Φ:Imm} {ω:Nat→Option Who} {b o:Nat} (h:∃p,ω b=some p):freshI I0 Φ ω b o=I0 b o:=by
 unfold freshI
 rw [if_pos h]
end
section
open Go.RowKit
variable {Φ0:Ent} {W:World} {M:Nat} {Φ:Imm} {μ:Nat→Option Nat} {ω:Nat→Option Who} {σ:PS} {a:Act} {w:World} {P:Program}
theorem RelG.freshSub (h:RelG Φ0 W M Φ μ ω σ a w) {b o:Nat} {u:Value} (e:freshI Φ0.imm Φ ω b o=some u):Φ b o=some u:=by
 unfold freshI at e
 split at e
 ·exact (h.ext b o u e).1
 ·exact e
theorem RelG.freshGlob (h:RelG Φ0 W M Φ μ ω σ a w):GlobOK (freshI Φ0.imm Φ ω):=by
 intro x hx j z e
 unfold freshI
 split
 ·exact Φ0.glob x hx j z e
 ·exact h.glob x hx j z e
theorem RelG.freshMix (h:RelG Φ0 W M Φ μ ω σ a w) {g:Nat} (hg:∃p,ω g=some p):Mix (freshI Φ0.imm Φ ω) g:=by
 have hm:Mix Φ0.imm g:=by
  obtain ⟨p,e⟩:=hg
  rcases h.mine g p e with h' | h'
  ·intro o u e'; have:=(h.ext g o u e').2;omega
  ·exact Φ0.fl g h'
 intro o u e
 rw [freshI_own hg] at e
 obtain ⟨o',u',e1,e2⟩:=hm o u e
 exact ⟨o',u',by rw [freshI_own hg];exact e1,e2⟩
noncomputable def RelG.freshE (h:RelG Φ0 W M Φ μ ω σ a w) (mu:Nat→Option Nat):Ent:=
 ⟨freshI Φ0.imm Φ ω,fun g=>∃p,ω g=some p,mu,h.freshGlob,fun _ hg=>h.freshMix hg,Φ0.marks,Φ0.round⟩
theorem RelG.rebase (h:RelG Φ0 W M Φ μ ω σ a w) {Φ1:Ent} {W1:World} (hb:Kept (Old Φ1 W1) W1 w) (hd:a.defers=Φ1.marks.map collD∧RndOK Φ1 W1) (ho:∀b o,Old Φ1 W1 b→Φ b o=Φ1.imm b o)
  (hg:∀id g,Φ1.mu id=some g→1000000≤id) (hk:∀id g,Φ1.mu id=some g→(σ.b id≠none∨σ.m id≠none)→μ id=some g) (he:∀b o u,Φ1.imm b o=some u→Φ b o=some u∧b < W1.heap.size) (hm:∀g p,ω g=some p→Mine Φ1 W1 g):RelG Φ1 W1 M Φ μ ω σ a w:=
 ⟨hb,hd,h.size,h.imm,ho,h.tmps,fun t n k cs E e=>(h.own t n k cs E e).inB (fun g e=>hm g _ e),fun id bs e=>(h.box id bs e).inB (fun g q _ e=>hm g q e),h.gone,h.lt,hg,hk,he,fun id X e=>(h.map id X e).inB (fun g q _ e=>hm g q e),hm⟩
theorem RelG.noOld (h:RelG Φ0 W M Φ μ ω σ a w) {b:Nat} (hb:Old Φ0 W b):∀p,ω b≠some p:=fun p e=>(h.mine b p e).ne hb rfl
theorem RelG.rnd (h:RelG Φ0 W M Φ μ ω σ a w) {l:Nat} (e:Φ0.round=some l):l < w.heap.size∧(∀p,ω l≠some p)∧∃r,w.heap[l]? = some (.loop r):=by
 obtain ⟨h1,r,h2⟩:=h.defers.2 l e
 exact ⟨Nat.lt_of_lt_of_le h1.1 h.below.size,h.noOld h1,r,(h.below.block l h1).trans h2⟩
theorem RelG.fresh0 (h:RelG Φ0 W M Φ μ ω σ a w) {mu:Nat→Option Nat} (hg:∀id g,mu id=some g→1000000≤id) (hk:∀id g,mu id=some g→(σ.b id≠none∨σ.m id≠none)→μ id=some g):RelG (h.freshE mu) w M Φ μ ω σ a w:=by
 refine h.rebase (Kept.refl _ _) ⟨h.defers.1,fun l e=>?_⟩ (fun b o hb=>(freshI_eq fun p e=>hb.2 ⟨p,e⟩).symm) hg hk (fun b o u e=>⟨h.freshSub e,RelG.fresh h (h.freshSub e)⟩) (fun g p e=>.inr ⟨p,e⟩)
 obtain ⟨h1,h2,h3⟩:=h.rnd e
 exact ⟨⟨h1,fun ⟨p,hp⟩=>h2 p hp⟩,h3⟩
structure Since (Φ:Imm) (ω:Nat→Option Who) (w:World) (Φ' : Imm) (ω' : Nat→Option Who) (w' : World):Prop where
 kept:Kept (fun b=>b < w.heap.size∧∀p,ω b≠some p) w w'
 own:∀g p,ω' g=some p→(∃q,ω g=some q)∨w.heap.size≤g
 imm:∀b o,b < w.heap.size→(∀p,ω b≠some p)→Φ' b o=Φ b o
theorem RelG.since (h:RelG Φ0 W M Φ μ ω σ a w) {mu:Nat→Option Nat} {Φ2:Ent} {W2:World} (hl:Later (h.freshE mu) w Φ2 W2) {M' : Nat} {Φ' : Imm} {μ' : Nat→Option Nat} {ω' : Nat→Option Who} {σ' : PS} {a' : Act} {w' : World} (k:RelG Φ2 W2 M' Φ' μ' ω' σ' a' w'):Since Φ ω w Φ' ω' w':=by
 have hold:∀b,b < w.heap.size→(∀p,ω b≠some p)→Old (h.freshE mu) w b:=fun b h1 h2=>⟨h1,fun ⟨p,e⟩=>h2 p e⟩
 refine ⟨(hl.kept.trans (k.below.mono hl.old)).mono fun b hb=>hold b hb.1 hb.2,fun g p e=>?_,fun b o h1 h2=>?_⟩
 ·rcases hl.mine g (k.mine g p e) with h|h
  ·exact .inr h
  ·exact .inl h
 ·rw [k.old b o (hl.old b (hold b h1 h2)),hl.imm]
  exact freshI_eq h2
theorem RelG.unfresh (h:RelG Φ0 W M Φ μ ω σ a w) {Φ2:Ent} {W2:World} (hl:Later (h.freshE Φ0.mu) w Φ2 W2) {Φ' : Imm} {μ' : Nat→Option Nat} {ω' : Nat→Option Who} {σ' : PS} {a' : Act} {w' : World} (k:RelG Φ2 W2 M Φ' μ' ω' σ' a' w') :
  ∃Φ3 W3,Later Φ0 W Φ3 W3∧Φ3.marks=Φ2.marks∧RelG Φ3 W3 M Φ' μ' ω' σ' a' w':=by
 have hs:=h.since hl k
 obtain ⟨ms,e1,n1,h1⟩:=hl.marks
 have hsz:w.heap.size≤W2.heap.size:=hl.kept.size
 have hWw:=h.below.size
 have hext:∀b o u,Φ0.imm b o=some u→b < W.heap.size:=fun b o u e=>(h.ext b o u e).2
 have hmine2:∀g,Mine Φ2 W2 g→Mine Φ0 W g:=fun g hg=>by
  rcases hl.mine g hg with h' | ⟨p,h'⟩
  ·exact .inl (Nat.le_trans hWw h')
  ·exact h.mine g p h'
 let Φ3:Ent:=⟨Φ0.imm,fun g=>Mine Φ0 W g∧g < W2.heap.size∧g∉ms,Φ0.mu,Φ0.glob,fun g hg=>by
  rcases hg.1 with h' | h'
  ·intro o u e;have:=hext g o u e;omega
  ·exact Φ0.fl g h',Φ2.marks,Φ0.round⟩
 have holdc:∀b,Old Φ3 W2 b→Old Φ0 W b∨b∈ms:=by
  rintro b ⟨hb1,hb2⟩
  by_cases hm:b∈ms
  ·exact .inr hm
  ·left
   by_cases hmi:Mine Φ0 W b
   ·exact absurd ⟨hmi,hb1,hm⟩ hb2
   ·exact ⟨Nat.lt_of_not_le fun hh=>hmi (.inl hh),fun hh=>hmi (.inr hh)⟩
 have hold0:∀b,Old Φ0 W b→b < w.heap.size∧∀p,ω b≠some p:=fun b hb=>⟨Nat.lt_of_lt_of_le hb.1 hWw,h.noOld hb⟩
 have hold3:∀b,Old Φ0 W b→Old Φ3 W2 b:=fun b hb=>⟨Nat.lt_of_lt_of_le (hold0 b hb).1 hsz,fun hh=>hh.1.ne hb rfl⟩
 have holdf:∀b,Old Φ0 W b→Old Φ2 W2 b:=fun b hb=>hl.old b ⟨(hold0 b hb).1,fun ⟨p,e⟩=>(hold0 b hb).2 p e⟩
 have hkW2:Kept (Old Φ0 W) W W2:=h.below.trans (hl.kept.mono fun b hb=>⟨(hold0 b hb).1,fun ⟨p,e⟩=>(hold0 b hb).2 p e⟩)
 have hms:∀m∈ms,Old Φ3 W2 m:=fun m hm=>⟨(h1 m hm).2.1.1,fun hh=>hh.2.2 hm⟩
 have hlat:Later Φ0 W Φ3 W2:=by
  refine ⟨rfl,rfl,rfl,hkW2,hold3,fun g hg=>?_,fun b hb=>(holdc b hb).imp id (fun h=>by show b∈Φ2.marks;rw [e1];exact List.mem_append.2 (.inl h)),fun _=>hext,ms,e1,n1,fun m hm=>⟨Nat.le_trans hWw (h1 m hm).1,hms m hm,(h1 m hm).2.2⟩⟩
  rcases hg with h' | h'
  ·exact .inl (Nat.le_trans hkW2.size h')
  ·exact h'.1
 refine ⟨Φ3,W2,hlat,rfl,k.rebase (k.below.mono fun b hb=>?_) ⟨k.defers.1,fun l e=>?_⟩ (fun b o hb=>?_) h.gmu (fun i g e hi=>?_) (fun b o u e=>?_) (fun g p e=>?_)⟩
 ·rcases holdc b hb with h' | h'
  ·exact holdf b h'
  ·exact (h1 b h').2.1
 ·obtain ⟨q1,r,q2⟩:=h.defers.2 l e
  exact ⟨hold3 l q1,r,(hkW2.block l q1).trans q2⟩
 ·rcases holdc b hb with h' | h'
  ·rw [hs.imm b o (hold0 b h').1 (hold0 b h').2]
   exact h.old b o h'
  ·have e1:Φ' b o=none:=by
    cases hh:Φ' b o with
    |none=>rfl
    |some u=>
     have:=k.imm b o u hh
     have hd:=(k.below.block b (h1 b h').2.1).trans (h1 b h').2.2
     simp only [World.cell?,hd] at this
     cases this
   have e2:Φ0.imm b o=none:=by
    cases hh:Φ0.imm b o with
    |none=>rfl
    |some u=>have:=hext b o u hh;have:=(h1 b h').1;omega
   show _=Φ0.imm b o
   rw [e1,e2]
 ·exact k.kmu i g (by rw [hl.mu];exact e) hi
 ·have h3:=h.ext b o u e
  refine ⟨?_,Nat.lt_of_lt_of_le h3.2 hkW2.size⟩
  by_cases hω:∃p,ω b=some p
  ·refine (k.ext b o u ?_).1
   rw [hl.imm]
   exact (freshI_own hω).trans e
  ·rw [hs.imm b o (Nat.lt_of_lt_of_le h3.2 hWw) (fun p e=>hω ⟨p,e⟩)]
   exact h3.1
 ·have hm:=k.mine g p e
  by_cases hlt:g < W2.heap.size
  ·refine .inr ⟨hmine2 g hm,hlt,fun hh=>?_⟩
   exact hm.ne (h1 g hh).2.1 rfl
  ·exact .inl (Nat.le_of_not_lt hlt)
end
section
open Go.RowKit
abbrev Come:=Option (List (List PV))
noncomputable def offI (Φ:Imm) (ω:Nat→Option Who):Imm:=freshI (fun _ _=>none) Φ ω
theorem offI_some {Φ:Imm} {ω:Nat→Option Who} {b o:Nat} {u:Value} : offI Φ ω b o=some u↔(∀p,ω b≠some p)∧Φ b o=some u:=by
 unfold offI
 constructor
 ·intro h
  by_cases hh:∃p,ω b=some p
  ·rw [freshI_own hh] at h;cases h
  ·have:∀p,ω b≠some p:=fun p e=>hh ⟨p,e⟩
   rw [freshI_eq this] at h
   exact ⟨this,h⟩
 ·rintro ⟨h1,h2⟩
  rw [freshI_eq h1];exact h2
structure ItEnv where
 J:Come→(Nat→Prop)→Imm→World→Prop
 step:∀{κ:Come} {I I' : Nat→Prop} {K K' : Imm} {w w' : World},J κ I K w→Kept (fun b=>b < w.heap.size∧¬I b) w w'→(∀g,I' g→I g∨w.heap.size≤g)→(∀b o u,K b o=some u→I b→K' b o=some u)→(∀b o u,K' b o=some u→w'.cell? ⟨b,o,none⟩=some u)→J κ I' K' w'
def YOK (P:Program) (E:ItEnv) (l:Nat) (A:List (List PV)→Prop) (Φe:Imm) (B0:Nat):Prop:=
 ∀(pre:List (List PV)) (x:List PV) (I:Nat→Prop) (K:Imm) (w1:World) (vs:List Value),A (pre ++ [x])→E.J (some pre) I K w1→(∀g,I g→B0≤g∧g < w1.heap.size)→(∀b o u,K b o=some u→w1.cell? ⟨b,o,none⟩=some u)→(∀b o,b < B0→K b o=Φe b o)→(∀b o u,B0≤b→K b o=some u→I b) →
  GlobOK K→RepL K mu0 x vs→YieldAt (FW none) 0 P l vs.toArray w1 fun e w2=>∃b:Bool,e = .returned (.bool b)∧E.J (if b then some (pre ++ [x]) else none) I K w2∧Kept (fun g=>I g∨(g < B0∧¬Mix Φe g)) w1 w2∧(∀b o u,K b o=some u→w2.cell? ⟨b,o,none⟩=some u)
def ItSpec (P:Program) (f:FuncId) (caps:List PV) (A S:List (List PV)→Prop):Prop:=
 callB P f=true∧∀(E:ItEnv) (l:Nat) (Φe:Imm) (w:World) (vs:List Value),(∀b o u,Φe b o=some u→w.cell? ⟨b,o,none⟩=some u)→GlobOK Φe→RepL Φe mu0 caps vs→YOK P E l A Φe w.heap.size→E.J (some []) (fun _=>False) Φe w →
  Calls P f (#[.func (.yield l) #[] #[]] ++ vs.toArray) w fun e w' => ∃v κ K,e = .returned v∧(∀xs,κ=some xs→S xs)∧E.J κ (fun _=>False) K w'
def RelJ (E:ItEnv) (Φ0:Ent) (W:World) (M:Nat) (κ:Come) (σ:PS) (a:Act) (w:World):Prop:=
 ∃Φ1 W1 Φ μ ω I,Later Φ0 W Φ1 W1∧RelG Φ1 W1 M Φ μ ω σ a w∧E.J κ I (offI Φ ω) w∧(∀g,I g→W.heap.size≤g∧g < w.heap.size)∧(∀g p,ω g=some p→I g)∧(∀b o u,W.heap.size≤b→Φ b o=some u→I b)∧(∀b o,b < W.heap.size→Φ b o=Φ0.imm b o)∧(∀m∈Φ1.marks,I m)
end
section
open Go.RowKit
variable {E:ItEnv} {Φ0:Ent} {W:World} {M:Nat} {κ:Come} {σ:PS} {a:Act} {w:World} {P:Program} {T:Tab}
theorem RelJ.go (h:RelJ E Φ0 W M κ σ a w):∃Φf:Ent,Φf.round=Φ0.round∧Rel Φf w M σ a w∧∀Φ2 W2 σ' a' w',Later Φf w Φ2 W2→Rel Φ2 W2 M σ' a' w'→RelJ E Φ0 W M κ σ' a' w':=by
 obtain ⟨Φ1,W1,Φ,μ,ω,I,hl,hg,hJ,h1,h2,h3,h4,h5⟩:=h
 refine ⟨hg.freshE Φ1.mu,hl.round,⟨Φ,μ,ω,hg.fresh0 hg.gmu hg.kmu⟩,?_⟩
 rintro Φ2 W2 σ' a' w' hl2 ⟨Φ',μ',ω',k⟩
 have hs:=hg.since hl2 k
 obtain ⟨Φ3,W3,hl3,em,k3⟩:=hg.unfresh hl2 k
 have hWw:W.heap.size≤w.heap.size:=Nat.le_trans hl.kept.size hg.below.size
 have hww:w.heap.size≤w'.heap.size:=hs.kept.size
 have hωn:∀b,b < W.heap.size→∀p,ω b≠some p:=fun b hb p e=>by have:=(h1 b (h2 b p e)).1;omega
 refine ⟨Φ3,W3,Φ',μ',ω',fun g=>I g∨(w.heap.size≤g∧g < w'.heap.size),hl.trans hl3,k3,?_,fun g hg' => ?_,fun g p e=>?_,fun b o u hb e=>?_,fun b o hb=>?_,fun m hm=>?_⟩
 ·refine E.step hJ (hs.kept.mono fun b hb=>⟨hb.1,fun p e=>hb.2 (h2 b p e)⟩) (fun g hg' => hg'.imp id (fun h=>h.1)) (fun b o u e hI=>?_) (fun b o u e=>k.imm b o u (offI_some.1 e).2)
  obtain ⟨e1,e2⟩:=offI_some.1 e
  have hb:=(h1 b hI).2
  refine offI_some.2 ⟨fun p ep=>?_,by rw [hs.imm b o hb e1];exact e2⟩
  rcases hs.own b p ep with ⟨q,hq⟩|hq
  ·exact e1 q hq
  ·omega
 ·rcases hg' with h' | h'
  ·exact ⟨(h1 g h').1,Nat.lt_of_lt_of_le (h1 g h').2 hww⟩
  ·exact ⟨Nat.le_trans hWw h'.1,h'.2⟩
 ·rcases hs.own g p e with ⟨q,hq⟩|hq
  ·exact .inl (h2 g q hq)
  ·exact .inr ⟨hq,k.lt g p e⟩
 ·by_cases hlt:b < w.heap.size
  ·left
   by_cases hω:∃p,ω b=some p
   ·obtain ⟨p,hp⟩:=hω;exact h2 b p hp
   ·rw [hs.imm b o hlt (fun p e=>hω ⟨p,e⟩)] at e
    exact h3 b o u hb e
  ·exact .inr ⟨Nat.le_of_not_lt hlt,RelG.fresh k e⟩
 ·rw [hs.imm b o (Nat.lt_of_lt_of_le hb hWw) (hωn b hb)]
  exact h4 b o hb
 ·rw [em] at hm
  obtain ⟨ms,e1,-,k1⟩:=hl2.marks
  rw [e1] at hm
  rcases List.mem_append.1 hm with hm|hm
  ·exact .inr ⟨(k1 m hm).1,Nat.lt_of_lt_of_le (k1 m hm).2.1.1 k.below.size⟩
  ·exact .inl (h5 m hm)
theorem RelJ.sub {σ' : PS} (h:RelJ E Φ0 W M κ σ a w) (hs:Sub M σ σ'):RelJ E Φ0 W M κ σ' a w:=by
 obtain ⟨Φf,-,hr,k⟩:=h.go
 exact k Φf w σ' a w (Later.refl _ _) (hs _ _ _ _ hr)
theorem RelJ.ev (h:RelJ E Φ0 W M κ σ a w) {c:Operand} {v:Value} (hc:pev σ c = .val v):a.eval c=v:=by
 obtain ⟨Φ1,W1,Φ,μ,ω,I,hl,hg,-⟩:=h
 have:=hg.ev c
 rw [hc] at this
 exact this.val_inv.1
def PWJ (E:ItEnv) (Φ0:Ent) (W:World) (P:Program) (M:Nat) (c:Code) (Q:Exit→PS→Come→Prop) (σ:PS) (κ:Come):Prop:=
 ∀a w,RelJ E Φ0 W M κ σ a w→c.wpIn (FW Φ0.round) 0 P (fun e a' w' => ∃σ' κ',Q e σ' κ'∧RelJ E Φ0 W M κ' σ' a' w') a w
end
section
open Go.RowKit
variable {E:ItEnv} {Φ0:Ent} {W:World} {M:Nat} {κ:Come} {σ:PS} {a:Act} {w:World} {P:Program} {T:Tab}
variable {Q:Exit→PS→Come→Prop}
theorem PWJ.of_pw {c:Code} (h:PW P M c (fun e σ' => Q e σ' κ) σ):PWJ E Φ0 W P M c Q σ κ:=by
 intro a w hr
 obtain ⟨Φf,e1,hr',k⟩:=hr.go
 have:=h Φf w a w hr'
 rw [e1] at this
 exact wpIn_mono this fun e a' w' ⟨σ',Φ2,W2,hq,hl,hr2⟩=>⟨σ',κ,hq,k Φ2 W2 σ' a' w' hl hr2⟩
theorem PWJ.sub {c:Code} {σ' : PS} (h:PWJ E Φ0 W P M c Q σ' κ) (hs:Sub M σ σ'):PWJ E Φ0 W P M c Q σ κ:=fun a w hr=>h a w (hr.sub hs)
def ThenJ (E:ItEnv) (Φ0:Ent) (W:World) (P:Program) (M:Nat) (y:Code) (Q:Exit→PS→Come→Prop):Exit→PS→Come→Prop
 | .normal,σ,κ=>PWJ E Φ0 W P M y Q σ κ
 |e,σ,κ=>Q e σ κ
theorem PWJ.seq {x y:Code} (h:PWJ E Φ0 W P M x (ThenJ E Φ0 W P M y Q) σ κ):PWJ E Φ0 W P M (.seq x y) Q σ κ:=by
 intro a w hr
 refine wpIn_seq (wpIn_mono (h a w hr) ?_)
 rintro e a' w' ⟨σ',κ',hq,hr'⟩
 cases e with
 |normal=>exact hq a' w' hr'
 |_=>exact ⟨σ',κ',hq,hr'⟩
def BlockJ (id:Nat) (Q:Exit→PS→Come→Prop):Exit→PS→Come→Prop
 | .exit i,σ,κ=>if i=id then Q .normal σ κ else Q (.exit i) σ κ
 |e,σ,κ=>Q e σ κ
theorem PWJ.block {id:Nat} {c:Code} (h:PWJ E Φ0 W P M c (BlockJ id Q) σ κ):PWJ E Φ0 W P M (.block id c) Q σ κ:=by
 intro a w hr
 refine wpIn_block (wpIn_mono (h a w hr) ?_)
 rintro e a' w' ⟨σ',κ',h1,h2⟩
 cases e with
 |exit i=>
  simp only [BlockJ] at h1
  simp only [Exit.inBlock]
  split at h1
  ·rename_i e;simp only [e,if_true];exact ⟨σ',κ',h1,h2⟩
  ·rename_i e;simp only [e,if_false];exact ⟨σ',κ',h1,h2⟩
 |_=>exact ⟨σ',κ',h1,h2⟩
theorem PWJ.cond {c:Operand} {x y:Code} {b:Bool} (hc:pev σ c = .val (.bool b)) (h:PWJ E Φ0 W P M (if b then x else y) Q σ κ):PWJ E Φ0 W P M (.cond c x y) Q σ κ:=
 fun a w hr=>wpIn_cond (hr.ev hc) (h a w hr)
theorem PWJ.skip (h:Q .normal σ κ):PWJ E Φ0 W P M .skip Q σ κ:=PWJ.of_pw (PW.skip h)
theorem PWJ.ret (h:Q .ret σ κ):PWJ E Φ0 W P M .ret Q σ κ:=PWJ.of_pw (PW.ret h)
theorem PWJ.exit {i:Nat} (h:Q (.exit i) σ κ):PWJ E Φ0 W P M (.exit i) Q σ κ:=PWJ.of_pw (PW.exit h)
def LoopJ {α:Type} (M:Nat) (st:α→PS) (kf:α→Come) (I:α→Prop) (m:α→Nat) (x:α) (Q:Exit→PS→Come→Prop):Exit→PS→Come→Prop
 | .normal,σ,κ=>∃y,I y∧m y < m x∧Sub M σ (st y)∧κ=kf y
 |e,σ,κ=>Q e σ κ
theorem PWJ.loop {α:Type} {c:Code} (st:α→PS) (kf:α→Come) (I:α→Prop) (m:α→Nat) (x0:α) (hi:I x0) (h0:Sub M σ (st x0)) (hk:κ=kf x0) (round:∀x,I x→PWJ E Φ0 W P M c (LoopJ M st kf I m x Q) (st x) (kf x)):PWJ E Φ0 W P M (.loop c) Q σ κ:=by
 intro a w hr b k cs hro hb hroom
 have key:∀n x a w,m x=n→I x→RelJ E Φ0 W M (kf x) (st x) a w→∃e a' w',(∃σ' κ',Q e σ' κ'∧RelJ E Φ0 W M κ' σ' a' w')∧ArrivesIn (Machine.fenced P (FW Φ0.round)) P (lone (b.atR a (.code c :: .inLoop c :: k)) cs w) b k cs e a' w':=by
  intro n
  induction n using Nat.strongRecOn with
  |_ n ih=>
   intro x a w hn hi' hI
   obtain ⟨e,a₁,w₁,⟨σ₁,κ₁,hq,hrel⟩,harr⟩:=round x hi' a w hI b (.inLoop c :: k) cs hro hb hroom
   cases e with
   |normal=>
    obtain ⟨y,hy,hlt,hsub,rfl⟩:=hq
    obtain ⟨e₂,a₂,w₂,hq₂,harr₂⟩:=ih (m y) (hn ▸ hlt) y a₁ w₁ rfl hy (hrel.sub hsub)
    exact ⟨e₂,a₂,w₂,hq₂, .of_steps (StepsIn.trans harr (.one (fenced_calm hb hroom rfl) stepR_inLoop)) harr₂⟩
   |exit id=>exact ⟨_,a₁,w₁,⟨σ₁,κ₁,hq,hrel⟩, .pass (x:=.inLoop c) rfl (fun _ _=>.inl (by simp)) harr⟩
   |goto l=>exact ⟨_,a₁,w₁,⟨σ₁,κ₁,hq,hrel⟩, .pass (x:=.inLoop c) rfl (fun _ _=>.inl (by simp)) harr⟩
   |ret=>exact ⟨_,a₁,w₁,⟨σ₁,κ₁,hq,hrel⟩, .pass (x:=.inLoop c) rfl (fun _ _=>.inl (by simp)) harr⟩
   |panic ch=>exact ⟨_,a₁,w₁,⟨σ₁,κ₁,hq,hrel⟩, .pass (x:=.inLoop c) rfl (fun _ _=>.inl (by simp)) harr⟩
   |outgrown=>exact ⟨_,a₁,w₁,⟨σ₁,κ₁,hq,hrel⟩, .pass (x:=.inLoop c) rfl (fun _ _=>.inl (by simp)) harr⟩
 subst hk
 obtain ⟨e,a',w',hq,harr⟩:=key _ x0 a w rfl hi (hr.sub h0)
 exact ⟨e,a',w',hq, .of_steps (.one (fenced_calm hb hroom rfl) stepR_loop) harr⟩
structure YAt (l:Nat) (A:List (List PV)→Prop) (M:Nat) (pre:List (List PV)) (x:List PV) (o:Oper) (d:Nat) (σ:PS):Prop where
 dst:o.dst=some d
 lt:d < M
 op:∃c y,o.op = .call c∧c.callee = .value y∧pev σ y = .val (.func (.yield l) #[] #[])∧c.args.toList.map (pev σ)=x
 guard:o.guard=none
 low:∀p∈x,Low p
 here:A (pre ++ [x])
 box:∀id bs,σ.b id=some bs→∀c∈bs,c.ownB=false
 map:∀id es c,σ.m id=some (.map es c)→∀e∈es,e.2.2.ownB=false
def ybehind (σ:PS) (d:Nat) (b:Bool):PS:={ t:=upd (fun t=>(σ.t t).bare) d (.val (.bool b)),b:=σ.b,m:=σ.m }
theorem run_ycall {l:Nat} {o:Oper} {c:Call} {y:Operand} (hop:o.op = .call c) (hcal:c.callee = .value y) (hv:a.eval y = .func (.yield l) #[] #[]):(execOp a.eval o).run P w=(Instr.yield l (c.args.toList.map a.eval).toArray).run P w:=by
 have e:(#[]:Array Value) ++ c.args.map a.eval=(c.args.toList.map a.eval).toArray:=by
  apply Array.ext'
  simp
 simp only [execOp,hop,resolve,hcal,hv,Deferred.ofValue,Sem.run_bind,Sem.run_pure,Result.andThen_ok,invoke]
 rw [e]
open Classical in
theorem yield_sound {l d:Nat} {A:List (List PV)→Prop} {pre:List (List PV)} {x:List PV} {o:Oper} (hgiv:∀b,Old Φ0 W b→¬Mix Φ0.imm b) (hy:YOK P E l A Φ0.imm W.heap.size) (hr:Φ0.round=none) (h:RelJ E Φ0 W M (some pre) σ a w) (ha:YAt l A M pre x o d σ)
  {K:Act→World→Prop} {Q' : Exit→Act→World→Prop} (hK:∀(b:Bool) a' w',RelJ E Φ0 W M (if b then some (pre ++ [x]) else none) (ybehind σ d b) a' w'→K a' w'):o.wpIn (FW Φ0.round) 0 P a w K Q':=by
 obtain ⟨Φ1,W1,Φ,μ,ω,I,hl,hg0,hJ,h1,h2,h3,h4,h5⟩:=h
 obtain ⟨c,y,hop,hcal,hyv,hargs⟩:=ha.op
 -- the marks of one's own are given away
 let σ1:PS:={ σ with t:=fun t=>(σ.t t).bare }
 have hg1:RelG Φ1 W1 M Φ μ ω σ1 a w:=hg0.forget _ (fun t=>.inr (.inr (.inl rfl)))
 let ω1:Nat→Option Who:=fun g=>if ∃i,ω g=some (.box i)∧μ i=some g∧(σ.b i≠none∨σ.m i≠none) then ω g else none
 have hω1:∀i g,ω g=some (.box i)→μ i=some g→(σ.b i≠none∨σ.m i≠none)→ω1 g=some (.box i):=fun i g e1 e2 e3=>by
  show (if _ then _ else _)=_
  rw [if_pos ⟨i,e1,e2,e3⟩];exact e1
 have hω2:∀g p,ω1 g=some p→ω g=some p∧∃i,ω g=some (.box i)∧μ i=some g∧(σ.b i≠none∨σ.m i≠none):=by
  intro g p e
  have e' : (if ∃i,ω g=some (.box i)∧μ i=some g∧(σ.b i≠none∨σ.m i≠none) then ω g else none)=some p:=e
  split at e'
  ·rename_i hh;exact ⟨e',hh⟩
  ·cases e'
 have hno1:∀t n k cs E',σ1.t t≠.sl n k cs (some E'):=by
  intro t n k cs E' e
  have h':=PV.bare_own (σ.t t)
  have e' : (σ.t t).bare = .sl n k cs (some E'):=e
  rw [e'] at h'
  simp [PV.ownB] at h'
 have hg:RelG Φ1 W1 M Φ μ ω1 σ1 a w:=by
  refine ⟨hg1.below,hg1.defers,hg1.size,hg1.imm,hg1.old,hg1.tmps,fun t n k cs E' e=>absurd e (hno1 t n k cs E'),fun id bs e=>?_,hg1.gone,fun g p e=>hg1.lt g p (hω2 g p e).1,hg1.gmu,hg1.kmu,hg1.ext,fun id X e=>?_,fun g p e=>hg1.mine g p (hω2 g p e).1⟩
  ·obtain ⟨g,cur,Ty,k1,k2,k3,k4,k5,k6,k7⟩:=hg1.box id bs e
   refine ⟨g,cur,Ty,k1,k2,k3,hω1 id g k4 k1 (.inl (by have e' : σ.b id=some bs:=e;rw [e'];simp)),k5,k6,fun j c' hc=>?_⟩
   obtain ⟨u,r1,r2,r3,-⟩:=k7 j c' hc
   refine ⟨u,r1,r2,r3,fun n k cs E' e' => ?_⟩
   have:=ha.box id bs e c' (mem_of_get hc)
   rw [e'] at this
   simp [PV.ownB] at this
  ·obtain ⟨g,k1,k2,k3,k4,k5⟩:=hg1.map id X e
   refine ⟨g,k1,k2,hω1 id g k3 k1 (.inr (by have e' : σ.m id=some X:=e;rw [e'];simp)),k4,?_⟩
   cases X with
   |map es clock=>
    obtain ⟨e0,ents,e1,e2,e3⟩:=k5
    refine ⟨e0,ents,e1,e2,fun j s k c' hj=>?_⟩
    obtain ⟨en,f1,f2,f3,f4,-⟩:=e3 j s k c' hj
    refine ⟨en,f1,f2,f3,f4,fun n kk cs E' ec=>?_⟩
    have:=ha.map id es clock e _ (mem_of_get hj)
    simp only [ec] at this
    simp [PV.ownB] at this
   |iter=>exact k5
 have hoff:∀g p,ω1 g=some p→∀j,Φ g j=none:=by
  intro g p e j
  obtain ⟨-,i,e1,e2,e3⟩:=hω2 g p e
  rcases e3 with e3|e3
  ·obtain ⟨bs,hbs⟩:=Option.ne_none_iff_exists'.1 e3
   obtain ⟨g',cur,Ty,k1,k2,k3,k4,k5,-⟩:=hg1.box i bs hbs
   rw [e2] at k1;cases k1
   exact k5 j
  ·obtain ⟨X,hX⟩:=Option.ne_none_iff_exists'.1 e3
   obtain ⟨g',k1,k2,k3,k4,-⟩:=hg1.map i X hX
   rw [e2] at k1;cases k1
   exact k4 j
 have hoffI:offI Φ ω1=Φ:=by
  funext b o'
  by_cases hh:∃p,ω1 b=some p
  ·obtain ⟨p,hp⟩:=hh
   rw [hoff b p hp o']
   exact freshI_own ⟨p,hp⟩
  ·exact freshI_eq fun p e=>hh ⟨p,e⟩
 have hJ1:E.J (some pre) I Φ w:=E.step hJ (Kept.refl _ _) (fun g hg' => .inl hg') (fun b o' u e _=>(offI_some.1 e).2) hg.imm
 have hrep:RepL Φ mu0 x (c.args.toList.map a.eval):=by
  refine ⟨by rw [←hargs];simp,fun j p u hp hu=>?_⟩
  have hl':=ha.low p (mem_of_get hp)
  rw [←hargs,List.getElem?_map] at hp
  rw [List.getElem?_map] at hu
  cases hj:c.args.toList[j]? with
  |none=>rw [hj] at hp;cases hp
  |some z=>
   rw [hj] at hp hu
   cases hp;cases hu
   exact (hg0.ev z).low hl'
 have hglob:GlobOK Φ:=hg.glob
 obtain ⟨fn,tmps,assign,body,hrun,hround⟩:=hy pre x I Φ w _ ha.here hJ1 h1 hg.imm h4 h3 hglob hrep
 have hvy:a.eval y = .func (.yield l) #[] #[]:=by
  have:=hg0.ev y
  rw [hyv] at this
  exact this.val_inv.1
 unfold Oper.wpIn
 refine ⟨fun _ _=>trivial,?_⟩
 rw [Oper.semAt_eq _ _ _ (fun c' e=>by rw [hop] at e;cases e),run_ycall hop hcal hvy,hrun]
 refine ⟨(fun e=>by cases e),?_⟩
 rw [hr]
 refine hround.mono ?_
 rintro e w2 ⟨b,rfl,hJ2,hk2,him2⟩
 simp only
 have hWw:W.heap.size≤w.heap.size:=Nat.le_trans hl.kept.size hg.below.size
 have hg2:RelG Φ1 W1 M Φ μ ω1 σ1 a w2:=by
  refine hg.grow (hg.below.trans (hk2.mono fun g hg' => ?_)) him2 (fun _ _ _=>rfl) (fun _ _ _ e=>e) (fun g p e=>⟨hk2.block g (.inl (h2 g p (hω2 g p e).1)),fun _=>rfl⟩) hk2.size
  rcases hl.only g hg' with h' | h'
  ·exact .inr ⟨h'.1,hgiv g h'⟩
  ·exact .inl (h5 g h')
 have hg3:=hg2.put (d:=d) ha.lt (p:=.val (.bool b)) (v:=.bool b) (.val _ rfl) rfl
 rw [ha.dst]
 refine hK b _ _ ⟨Φ1,W1,Φ,μ,ω1,I,hl,hg3,by rw [hoffI];exact hJ2,fun g hg' => ⟨(h1 g hg').1,Nat.lt_of_lt_of_le (h1 g hg').2 hk2.size⟩,fun g p e=>h2 g p (hω2 g p e).1,h3,h4,h5⟩
end
section
open Go.RowKit
variable {M:Nat} {P:Program} {T:Tab} {ops:List Oper} {base:Nat}
theorem any_soundR {R:PS→Act→World→Prop} (hR:∀σ a w,R σ a w→∃Φ0 W,Rel Φ0 W M σ a w∧∀σ' a' w',Rel Φ0 W M σ' a' w'→R σ' a' w') (hT:T=tabOf P) (hbase:base+ops.toArray.size≤1000000) (hall:∀(j:Nat) o,ops.toArray[j]? = some o→dstB M o=true) (hdraw:drawB ops=true) {Q:PS→Prop} {Q' : Exit→Act→World→Prop} (hQ:∀σ a w,Q σ→R σ a w→Q' .normal a w) {r:Option Nat} :
  ∀(fuel:Nat) (listed:Array Bool) (σ:PS) (a:Act) (w:World),unlisted listed≤fuel→listed.size=ops.length→(∀(i:Nat) o,ops[i]? = some o→listed.getD i false=true→∀j,depO o j=true→listed.getD j false=true) →
   PWops P T ops.toArray base (okR ops base) ((indexed 0 ops).filter fun x => !listed.getD x.1 false) Q σ→R σ a w→wpAnyIn (FW r) 0 P .any ops.toArray Q' fuel listed a w:=by
 obtain ⟨hE,hI⟩:=draw_parts hdraw
 have hsz:∀listed:Array Bool,listed.size=ops.length→listed.size=ops.toArray.size:=fun l h=>by simpa using h
 have fin:∀(listed:Array Bool) (σ:PS) (a:Act) (w:World),listed.size=ops.length→(∀i,i < ops.length→listed.getD i false=true) →
   PWops P T ops.toArray base (okR ops base) ((indexed 0 ops).filter fun x => !listed.getD x.1 false) Q σ→R σ a w→Q' .normal a w:=by
  intro listed σ a w hs hl h hr
  have:((indexed 0 ops).filter fun x => !listed.getD x.1 false) = []:=by
   rw [List.filter_eq_nil_iff]
   intro x hx
   obtain ⟨-,h2⟩:=indexed_mem 0 ops x hx
   have:x.1 < ops.length:=by have:=(List.getElem?_eq_some_iff.1 h2).1;omega
   simp [hl x.1 this]
  rw [this] at h
  exact hQ σ a w h hr
 have alls:∀listed:Array Bool,listed.size=ops.length→Region.ready .any ops.toArray listed = []→∀i,i < ops.length→listed.getD i false=true:=by
  intro listed hs hr i
  induction i using Nat.strongRecOn with
  |_ i ih=>
   intro hi
   have ho:ops.toArray[i]? = some ops[i]:=by simp [hi]
   cases hl:listed.getD i false with
   |true=>rfl
   |false=>
    have:i∈Region.ready .any ops.toArray listed:=(mem_ready (hsz listed hs)).2 ⟨ops[i],ho,hl,fun j hj=>by
     obtain ⟨e,he,hb,rfl⟩:=depO_iff.1 hj
     have:=hE i ops[i] (by simp [hi]) e he hb
     exact ih e.on this (by omega)⟩
    rw [hr] at this;cases this
 intro fuel
 induction fuel with
 |zero=>
  intro listed σ a w hu hs hcl h hr
  have hl:=unlisted_zero (Nat.le_zero.1 hu)
  rw [hs] at hl
  refine ⟨?_,fin listed σ a w hs hl h hr⟩
  apply List.eq_nil_iff_forall_not_mem.2
  intro i hi
  obtain ⟨o,ho,h1,_⟩:=(mem_ready (hsz listed hs)).1 hi
  rw [hl i (by have:=(Array.getElem?_eq_some_iff.1 ho).1;simpa using this)] at h1
  cases h1
 |succ fuel ih=>
  intro listed σ a w hu hs hcl h hr
  refine ⟨fun hrd=>fin listed σ a w hs (alls listed hs hrd) h hr,fun i hi=>?_⟩
  obtain ⟨o,ho,h1,h2⟩:=(mem_ready (hsz listed hs)).1 hi
  have ho' : ops[i]? = some o:=by simpa using ho
  have hil:i < ops.length:=(List.getElem?_eq_some_iff.1 ho').1
  have hmem:(i,o)∈(indexed 0 ops).filter fun x => !listed.getD x.1 false:=by
   rw [List.mem_filter]
   refine ⟨?_,by simp [h1]⟩
   have:∀(l:List Oper) (k i:Nat) o,l[i]? = some o→(k+i,o)∈indexed k l:=by
    intro l
    induction l with
    |nil=>intro k i o h;simp at h
    |cons p l ih=>
     intro k i o h
     cases i with
     |zero=>simp at h;subst h;simp [indexed]
     |succ i=>
      simp at h
      have:=ih (k+1) i o h
      simp only [indexed,List.mem_cons]
      right
      rw [show k+(i+1)=k+1+i by omega];exact this
   have:=this ops 0 i o ho'
   rwa [Nat.zero_add] at this
  obtain ⟨pre,post,hL⟩:=List.append_of_mem hmem
  have hsort:((indexed 0 ops).filter fun x => !listed.getD x.1 false).Pairwise (fun a b=>a.1 < b.1):=(indexed_sorted 0 ops).filter _
  rw [hL] at h hsort
  rw [List.pairwise_append] at hsort
  obtain ⟨-,hs2,hs3⟩:=hsort
  rw [List.pairwise_cons] at hs2
  have hpre:∀y∈pre,y.1 < i:=fun y hy=>hs3 y hy (i,o) (by simp)
  have hpost:∀y∈post,i < y.1:=fun y hy=>hs2.1 y hy
  have hprem:∀y∈pre,ops[y.1]? = some y.2∧listed.getD y.1 false=false:=by
   intro y hy
   have:y∈(indexed 0 ops).filter fun x => !listed.getD x.1 false:=by rw [hL];simp [hy]
   rw [List.mem_filter] at this
   obtain ⟨-,q⟩:=indexed_mem 0 ops y this.1
   exact ⟨by simpa using q,by simpa using this.2⟩
  have hb:=PWops.bubble (P:=P) (T:=T) (base:=base) (ok:=okR ops base) (cl:=clos ops) (ix:=i) (x:=o) (post:=post) (Q:=Q) pre σ (by
   intro y hy
   obtain ⟨q1,q2⟩:=hprem y hy
   have hlt:=hpre y hy
   have hnc:y.1∉(clos ops).getD i []:=fun hc=>by
    rw [clos_listed hE hcl i o ho' h2 y.1 hc] at q2;cases q2
   have hyl:y.1 < ops.length:=(List.getElem?_eq_some_iff.1 q1).1
   refine ⟨⟨by simpa using (hI i y.1 o y.2 ho' q1 hlt).resolve_left hnc,fun hs j hj1 hj2=>sep_ok (ops:=ops) q1 ho' (by simpa using hs) j hj1 hj2⟩,by omega,?_,?_⟩
   ·rw [okR,Bool.and_eq_false_iff];left
    simp only [okD,Bool.or_eq_false_iff,decide_eq_false_iff_not]
    refine ⟨⟨by omega,by omega⟩,?_⟩
    rw [Nat.add_sub_cancel_left]
    simpa using hnc
   ·rw [okR,Bool.and_eq_false_iff];left
    simp only [okD,Bool.or_eq_false_iff,decide_eq_false_iff_not]
    refine ⟨⟨by omega,by omega⟩,?_⟩
    rw [Nat.add_sub_cancel_left]
    have:i∉(clos ops).getD y.1 []:=fun hc=>by have:=clos_lt hE y.1 y.2 q1 i hc;omega
    simpa using this) h
  have hset:listed.getD i false=false:=h1
  have hlt:i < listed.size:=by rw [hs];exact hil
  have hrem:pre ++ post=(indexed 0 ops).filter fun x => !(listed.setIfInBounds i true).getD x.1 false:=by
   have e1:((indexed 0 ops).filter fun x => !(listed.setIfInBounds i true).getD x.1 false)=((indexed 0 ops).filter fun x => !listed.getD x.1 false).filter (fun x => !decide (x.1=i)):=by
    rw [List.filter_filter]
    congr 1
    funext x
    rw [getD_set _ _ _ hlt]
    cases listed.getD x.1 false<;>simp
   rw [e1,hL,List.filter_append,List.filter_cons]
   have e2:pre.filter (fun x => !decide (x.1=i))=pre:=List.filter_eq_self.2 (fun y hy=>by have:=hpre y hy;simp;omega)
   have e3:post.filter (fun x => !decide (x.1=i))=post:=List.filter_eq_self.2 (fun y hy=>by have:=hpost y hy;simp;omega)
   rw [e2,e3]
   simp
  have hcl' : ∀(k:Nat) p,ops[k]? = some p→(listed.setIfInBounds i true).getD k false=true→∀j,depO p j=true→(listed.setIfInBounds i true).getD j false=true:=by
   intro k p hp hk j hj
   rw [getD_set _ _ _ hlt] at hk ⊢
   simp only [Bool.or_eq_true,decide_eq_true_eq] at hk ⊢
   rcases hk with rfl|hk
   ·rw [ho'] at hp;cases hp;exact .inr (h2 j hj)
   ·exact .inr (hcl k p hp hk j hj)
  obtain ⟨Φ0,W,hrel,hbk⟩:=hR σ a w hr
  have hstep:=op_sound (Φ0:=Φ0) (W:=W) (M:=M) hT hall (base:=base) hbase ho (K':=wpAnyIn (FW r) 0 P .any ops.toArray Q' fuel (listed.setIfInBounds i true)) (Q':=Q') (fun σ' a' w' hk hr' => ih (listed.setIfInBounds i true) σ' a' w' (by have:=unlisted_set listed i hlt hset;omega) (by simpa using hs) hcl' (by rw [←hrem];exact hk) (hbk _ _ _ hr')) hb hrel
  unfold wpOpIn
  rw [ho]
  simp only
  split
  ·rename_i hw;rw [if_pos hw] at hstep;exact wpIn_of_wp (dstB_defer (hall i o ho)) hstep
  ·rename_i hw;rw [if_neg hw] at hstep;exact ⟨fun _ _=>trivial,hstep⟩
theorem opsR_sound {R:PS→Act→World→Prop} (hR:∀σ a w,R σ a w→∃Φ0 W,Rel Φ0 W M σ a w∧∀σ' a' w',Rel Φ0 W M σ' a' w'→R σ' a' w') (hT:T=tabOf P) {ops:Array Oper} (hall:∀(j:Nat) o,ops[j]? = some o→dstB M o=true) {base:Nat} (hbase:base+ops.size≤1000000) {ok:Nat→Nat→Bool} {r:Option Nat} {Q:PS→Prop} {Q' : Exit→Act→World→Prop} {tail:List Nat} (hQ:∀σ a w,Q σ→R σ a w→wpOpsIn (FW r) 0 P ops Q' tail a w) :
  ∀(l:List (Nat×Oper)),(∀x∈l,ops[x.1]? = some x.2)→∀(σ:PS) (a:Act) (w:World),PWops P T ops base ok l Q σ→R σ a w→wpOpsIn (FW r) 0 P ops Q' (l.map (·.1) ++ tail) a w
 | [],_,σ,a,w,h,hr=>hQ σ a w h hr
 |(i,o) :: rest,hl,σ,a,w,h,hr=>by
  have hio:ops[i]? = some o:=hl (i,o) (by simp)
  have ih:=opsR_sound hR hT hall hbase (ok:=ok) (r:=r) hQ rest (fun x hx=>hl x (by simp [hx]))
  simp only [List.map_cons,List.cons_append,wpOpsIn,hio]
  obtain ⟨Φ0,W,hrel,hbk⟩:=hR σ a w hr
  have:=op_sound hT hall hbase hio (K':=wpOpsIn (FW r) 0 P ops Q' (rest.map (·.1) ++ tail)) (Q':=Q') (fun σ' a' w' hk hr' => ih σ' a' w' hk (hbk _ _ _ hr')) h hrel
  split
  ·rename_i hw;rw [if_pos hw] at this;exact wpIn_of_wp (dstB_defer (hall i o hio)) this
  ·rename_i hw;rw [if_neg hw] at this;exact ⟨fun _ _=>trivial,this⟩
theorem indexed_len:∀(k:Nat) (l:List Oper),(indexed k l).length=l.length
 |_,[]=>rfl
 |k,o :: r=>by simp [indexed,indexed_len (k+1) r]
end
section
open Go.RowKit
variable {E:ItEnv} {Φ0:Ent} {W:World} {M:Nat} {κ:Come} {σ:PS} {a:Act} {w:World} {P:Program} {T:Tab} {Q:Exit→PS→Come→Prop}
theorem relJ_R:∀σ a w,RelJ E Φ0 W M κ σ a w→∃Φf W',Rel Φf W' M σ a w∧∀σ' a' w',Rel Φf W' M σ' a' w'→RelJ E Φ0 W M κ σ' a' w':=by
 intro σ a w h
 obtain ⟨Φf,-,h1,h2⟩:=h.go
 exact ⟨Φf,w,h1,fun σ' a' w' h3=>h2 Φf w σ' a' w' (Later.refl _ _) h3⟩
theorem RelJ.drew (h:RelJ E Φ0 W M κ σ a w):RelJ E Φ0 W M κ σ a w.drew:=by
 obtain ⟨Φf,-,⟨Φ,μ,ω,h1⟩,h2⟩:=h.go
 exact h2 Φf w σ a w.drew (Later.refl _ _) ⟨Φ,μ,ω,h1.drew⟩
theorem PWJ.region (hT:T=tabOf P) {l d:Nat} {A:List (List PV)→Prop} (hgiv:∀b,Old Φ0 W b→¬Mix Φ0.imm b) (hy:YOK P E l A Φ0.imm W.heap.size) (hr:Φ0.round=none) {id:Nat} {ops:List Oper} (hall2:(ops.all (dstB M) && Nat.ble (1000 * id+ops.length) 1000000)=true)
  {before after:List (Nat×Oper)} {n0:Nat} {y:Oper} (hsp:indexed 0 ops=before ++ (n0,y) :: after) {pre:List (List PV)} {x:List PV} (hk:κ=some pre)
  (h:PWops P T ops.toArray (1000 * id) (fun _ _=>true) before (fun σ' => YAt l A M pre x y d σ'∧∀b:Bool,PWops P T ops.toArray (1000 * id) (fun _ _=>true) after (fun σ'' => Q .normal σ'' (if b then some (pre ++ [x]) else none)) (ybehind σ' d b)) σ) :
  PWJ E Φ0 W P M (.region id ops.toArray false) Q σ κ:=by
 intro a w hrel
 subst hk
 have hall2':=hall2
 simp only [Bool.and_eq_true] at hall2'
 obtain ⟨hall,hb0⟩:=hall2'
 have hbase:=Nat.le_of_ble_eq_true hb0
 have hall' : ∀(j:Nat) o,ops.toArray[j]? = some o→dstB M o=true:=by
  intro j o hj
  exact List.all_eq_true.1 hall o (mem_of_get (by simpa using hj))
 have hmem:∀z∈indexed 0 ops,ops.toArray[z.1]? = some z.2:=by
  intro z hz
  obtain ⟨-,h2⟩:=indexed_mem 0 ops z hz
  simpa using h2
 refine wpIn_region ?_
 have hidx:List.range ops.toArray.size=before.map (·.1) ++ (n0 :: after.map (·.1)):=by
  rw [List.range_eq_range',List.size_toArray,←indexed_fst,hsp]
  simp
 rw [hidx]
 refine opsR_sound (R:=RelJ E Φ0 W M (some pre)) relJ_R hT hall' (by simpa using hbase) (fun σ' a' w' hq hr' => ?_) before (fun z hz=>hmem z (by rw [hsp];exact List.mem_append.2 (.inl hz))) σ a w h hrel
 obtain ⟨hya,haf⟩:=hq
 have hn0:ops.toArray[n0]? = some y:=hmem (n0,y) (by rw [hsp];exact List.mem_append.2 (.inr List.mem_cons_self))
 simp only [wpOpsIn,hn0]
 have hw:Region.wanted y (yielded ops.toArray a'.tmps)=true:=by simp [Region.wanted,hya.guard]
 rw [if_pos hw]
 refine yield_sound hgiv hy hr hr' hya (fun b a2 w2 hr2=>?_)
 have:=opsR_sound (R:=RelJ E Φ0 W M (if b then some (pre ++ [x]) else none)) (r:=Φ0.round) (Q':=fun e a' w' => ∃σ' κ',Q e σ' κ'∧RelJ E Φ0 W M κ' σ' a' w') (tail := []) relJ_R hT hall' (by simpa using hbase) (fun σ'' a3 w3 hq hr3=>⟨σ'',_,hq,hr3⟩) after (fun z hz=>hmem z (by rw [hsp];exact List.mem_append.2 (.inr (List.mem_cons_of_mem _ hz)))) _ a2 w2 (haf b) hr2
 simpa using this
end
section
open Go.RowKit
def drawY (ops:List Oper) (n0:Nat):Bool:=drawB ops && (List.range n0).all (fun j=>((clos ops).getD n0 []).contains j) && (List.range' (n0+1) (ops.length - (n0+1))).all (fun j=>((clos ops).getD j []).contains n0)
end
section
open Go.RowKit
variable {E:ItEnv} {Φ0:Ent} {W:World} {M:Nat} {κ:Come} {σ:PS} {a:Act} {w:World} {P:Program} {T:Tab} {Q:Exit→PS→Come→Prop} {ops:List Oper} {base:Nat}
theorem any_soundY (hT:T=tabOf P) (hbase:base+ops.toArray.size≤1000000) (hall:∀(j:Nat) o,ops.toArray[j]? = some o→dstB M o=true) {n0:Nat} (hdraw:drawY ops n0=true)
  {l d:Nat} {A:List (List PV)→Prop} (hgiv:∀b,Old Φ0 W b→¬Mix Φ0.imm b) (hy:YOK P E l A Φ0.imm W.heap.size) (hr:Φ0.round=none) {pre:List (List PV)} {x:List PV} {before after:List (Nat×Oper)} {y:Oper} (hsp:indexed 0 ops=before ++ (n0,y) :: after) {Q' : Exit→Act→World→Prop} {Qa:Bool→PS→Prop}
  (hQ:∀b σ a w,Qa b σ→RelJ E Φ0 W M (if b then some (pre ++ [x]) else none) σ a w→Q' .normal a w) :
  ∀(fuel:Nat) (listed:Array Bool) (σ:PS) (a:Act) (w:World),unlisted listed≤fuel→listed.size=ops.length→(∀(i:Nat) o,ops[i]? = some o→listed.getD i false=true→∀j,depO o j=true→listed.getD j false=true)→listed.getD n0 false=false →
   PWops P T ops.toArray base (okR ops base) (before.filter fun x => !listed.getD x.1 false) (fun σ' => YAt l A M pre x y d σ'∧∀b,PWops P T ops.toArray base (okR ops base) after (Qa b) (ybehind σ' d b)) σ→RelJ E Φ0 W M (some pre) σ a w→wpAnyIn (FW Φ0.round) 0 P .any ops.toArray Q' fuel listed a w:=by
 simp only [drawY,Bool.and_eq_true] at hdraw
 obtain ⟨⟨hdr,hd1⟩,hd2⟩:=hdraw
 obtain ⟨hE,hI⟩:=draw_parts hdr
 have hsz:∀listed:Array Bool,listed.size=ops.length→listed.size=ops.toArray.size:=fun l h=>by simpa using h
 have hsorted:=indexed_sorted 0 ops
 rw [hsp,List.pairwise_append] at hsorted
 obtain ⟨hsb,hsa,hsx⟩:=hsorted
 rw [List.pairwise_cons] at hsa
 have hmem:∀z∈indexed 0 ops,ops[z.1]? = some z.2:=by
  intro z hz
  obtain ⟨-,h2⟩:=indexed_mem 0 ops z hz
  simpa using h2
 have hy0:ops[n0]? = some y:=hmem (n0,y) (by rw [hsp];exact List.mem_append.2 (.inr List.mem_cons_self))
 have hn0:n0 < ops.length:=(List.getElem?_eq_some_iff.1 hy0).1
 have hbm:∀z∈before,z.1 < n0∧ops[z.1]? = some z.2:=fun z hz=>⟨hsx z hz (n0,y) List.mem_cons_self,hmem z (by rw [hsp];exact List.mem_append.2 (.inl hz))⟩
 have ham:∀z∈after,n0 < z.1∧ops[z.1]? = some z.2:=fun z hz=>⟨hsa.1 z hz,hmem z (by rw [hsp];exact List.mem_append.2 (.inr (List.mem_cons_of_mem _ hz)))⟩
 have hcb:∀z∈before,z.1∈(clos ops).getD n0 []:=fun z hz=>List.contains_iff_mem.1 (List.all_eq_true.1 hd1 z.1 (List.mem_range.2 (hbm z hz).1))
 have hca:∀z∈after,n0∈(clos ops).getD z.1 []:=fun z hz=>List.contains_iff_mem.1 (List.all_eq_true.1 hd2 z.1 (by
  have:=(ham z hz).1
  have:=(List.getElem?_eq_some_iff.1 (ham z hz).2).1
  rw [List.mem_range'_1];omega))
 have hinx:∀(i:Nat) o,ops[i]? = some o→(i,o)∈indexed 0 ops:=by
  have:∀(l:List Oper) (k i:Nat) o,l[i]? = some o→(k+i,o)∈indexed k l:=by
   intro l
   induction l with
   |nil=>intro k i o h;simp at h
   |cons p l ih=>
    intro k i o h
    cases i with
    |zero=>simp at h;subst h;simp [indexed]
    |succ i=>
     simp at h
     have:=ih (k+1) i o h
     simp only [indexed,List.mem_cons]
     right
     rw [show k+(i+1)=k+1+i by omega];exact this
  intro i o h
  have:=this ops 0 i o h
  rwa [Nat.zero_add] at this
 have alls:∀listed:Array Bool,listed.size=ops.length→Region.ready .any ops.toArray listed = []→∀i,i < ops.length→listed.getD i false=true:=by
  intro listed hs hr i
  induction i using Nat.strongRecOn with
  |_ i ih=>
   intro hi
   have ho:ops.toArray[i]? = some ops[i]:=by simp [hi]
   cases hl:listed.getD i false with
   |true=>rfl
   |false=>
    have:i∈Region.ready .any ops.toArray listed:=(mem_ready (hsz listed hs)).2 ⟨ops[i],ho,hl,fun j hj=>by
     obtain ⟨e,he,hb,rfl⟩:=depO_iff.1 hj
     have:=hE i ops[i] (by simp [hi]) e he hb
     exact ih e.on this (by omega)⟩
    rw [hr] at this;cases this
 intro fuel
 induction fuel with
 |zero=>
  intro listed σ a w hu hs hcl hn h hr
  have hl:=unlisted_zero (Nat.le_zero.1 hu)
  rw [hl n0 (by rw [hs];exact hn0)] at hn
  cases hn
 |succ fuel ih=>
  intro listed σ a w hu hs hcl hn h hrel
  refine ⟨(fun hrd=>by rw [alls listed hs hrd n0 hn0] at hn;cases hn),fun i hi=>?_⟩
  obtain ⟨o,ho,h1,h2⟩:=(mem_ready (hsz listed hs)).1 hi
  have ho' : ops[i]? = some o:=by simpa using ho
  have hil:i < ops.length:=(List.getElem?_eq_some_iff.1 ho').1
  have hset:listed.getD i false=false:=h1
  have hlt:i < listed.size:=by rw [hs];exact hil
  have hcl' : ∀(k:Nat) p,ops[k]? = some p→(listed.setIfInBounds i true).getD k false=true→∀j,depO p j=true→(listed.setIfInBounds i true).getD j false=true:=by
   intro k p hp hk j hj
   rw [getD_set _ _ _ hlt] at hk ⊢
   simp only [Bool.or_eq_true,decide_eq_true_eq] at hk ⊢
   rcases hk with rfl|hk
   ·rw [ho'] at hp;cases hp;exact .inr (h2 j hj)
   ·exact .inr (hcl k p hp hk j hj)
  have hin:=hinx i o ho'
  rw [hsp] at hin
  rcases List.mem_append.1 hin with hin|hin
  ·-- ahead of the call
   have hmem:(i,o)∈before.filter fun x => !listed.getD x.1 false:=by
    rw [List.mem_filter]
    exact ⟨hin,by simp [h1]⟩
   obtain ⟨pre',post',hL⟩:=List.append_of_mem hmem
   have hsort:(before.filter fun x => !listed.getD x.1 false).Pairwise (fun a b=>a.1 < b.1):=hsb.filter _
   rw [hL] at h hsort
   rw [List.pairwise_append] at hsort
   obtain ⟨-,hs2,hs3⟩:=hsort
   rw [List.pairwise_cons] at hs2
   have hpre:∀y∈pre',y.1 < i:=fun y hy=>hs3 y hy (i,o) (by simp)
   have hpost:∀y∈post',i < y.1:=fun y hy=>hs2.1 y hy
   have hprem:∀y∈pre',ops[y.1]? = some y.2∧listed.getD y.1 false=false:=by
    intro y hy
    have:y∈before.filter fun x => !listed.getD x.1 false:=by rw [hL];simp [hy]
    rw [List.mem_filter] at this
    exact ⟨(hbm y this.1).2,by simpa using this.2⟩
   have hb:=PWops.bubble (P:=P) (T:=T) (base:=base) (ok:=okR ops base) (cl:=clos ops) (ix:=i) (x:=o) (post:=post') (Q:=fun σ' => YAt l A M pre x y d σ'∧∀b,PWops P T ops.toArray base (okR ops base) after (Qa b) (ybehind σ' d b)) pre' σ (by
    intro y hy
    obtain ⟨q1,q2⟩:=hprem y hy
    have hlt:=hpre y hy
    have hnc:y.1∉(clos ops).getD i []:=fun hc=>by
     rw [clos_listed hE hcl i o ho' h2 y.1 hc] at q2;cases q2
    have hyl:y.1 < ops.length:=(List.getElem?_eq_some_iff.1 q1).1
    refine ⟨⟨by simpa using (hI i y.1 o y.2 ho' q1 hlt).resolve_left hnc,fun hs j hj1 hj2=>sep_ok (ops:=ops) q1 ho' (by simpa using hs) j hj1 hj2⟩,by omega,?_,?_⟩
    ·rw [okR,Bool.and_eq_false_iff];left
     simp only [okD,Bool.or_eq_false_iff,decide_eq_false_iff_not]
     refine ⟨⟨by omega,by omega⟩,?_⟩
     rw [Nat.add_sub_cancel_left]
     simpa using hnc
    ·rw [okR,Bool.and_eq_false_iff];left
     simp only [okD,Bool.or_eq_false_iff,decide_eq_false_iff_not]
     refine ⟨⟨by omega,by omega⟩,?_⟩
     rw [Nat.add_sub_cancel_left]
     have:i∉(clos ops).getD y.1 []:=fun hc=>by have:=clos_lt hE y.1 y.2 q1 i hc;omega
     simpa using this) h
   have hrem:pre' ++ post' = before.filter fun x => !(listed.setIfInBounds i true).getD x.1 false:=by
    have e1:(before.filter fun x => !(listed.setIfInBounds i true).getD x.1 false)=(before.filter fun x => !listed.getD x.1 false).filter (fun x => !decide (x.1=i)):=by
     rw [List.filter_filter]
     congr 1
     funext x
     rw [getD_set _ _ _ hlt]
     cases listed.getD x.1 false<;>simp
    rw [e1,hL,List.filter_append,List.filter_cons]
    have e2:pre'.filter (fun x => !decide (x.1=i))=pre':=List.filter_eq_self.2 (fun y hy=>by have:=hpre y hy;simp;omega)
    have e3:post'.filter (fun x => !decide (x.1=i))=post':=List.filter_eq_self.2 (fun y hy=>by have:=hpost y hy;simp;omega)
    rw [e2,e3]
    simp
   have hn' : (listed.setIfInBounds i true).getD n0 false=false:=by
    rw [getD_set _ _ _ hlt]
    have:=(hbm (i,o) hin).1
    simp only at this
    rw [hn]
    simp;omega
   obtain ⟨Φf,W',hrel',hbk⟩:=relJ_R σ a w hrel
   have hstep:=op_sound (Φ0:=Φf) (W:=W') (M:=M) hT hall (base:=base) hbase ho (K':=wpAnyIn (FW Φ0.round) 0 P .any ops.toArray Q' fuel (listed.setIfInBounds i true)) (Q':=Q') (fun σ' a' w' hk hr' => ih (listed.setIfInBounds i true) σ' a' w' (by have:=unlisted_set listed i hlt hset;omega) (by simpa using hs) hcl' hn' (by rw [←hrem];exact hk) (hbk _ _ _ hr')) hb hrel'
   unfold wpOpIn
   rw [ho]
   simp only
   split
   ·rename_i hw;rw [if_pos hw] at hstep;exact wpIn_of_wp (dstB_defer (hall i o ho)) hstep
   ·rename_i hw;rw [if_neg hw] at hstep;exact ⟨fun _ _=>trivial,hstep⟩
  ·rcases List.mem_cons.1 hin with hin|hin
   ·-- the call
    cases hin
    have hall' : ∀z∈before,listed.getD z.1 false=true:=fun z hz=>clos_listed hE hcl n0 y hy0 h2 z.1 (hcb z hz)
    have hnil:(before.filter fun x => !listed.getD x.1 false) = []:=by
     rw [List.filter_eq_nil_iff]
     intro z hz
     simp [hall' z hz]
    rw [hnil] at h
    obtain ⟨hya,haf⟩:=h
    unfold wpOpIn
    rw [ho]
    simp only
    have hw:Region.wanted y (yielded ops.toArray a.tmps)=true:=by simp [Region.wanted,hya.guard]
    rw [if_pos hw]
    refine yield_sound hgiv hy hr hrel hya (fun b a2 w2 hr2=>?_)
    refine any_soundR (R:=RelJ E Φ0 W M (if b then some (pre ++ [x]) else none)) (r:=Φ0.round) relJ_R hT hbase hall hdr (Q:=Qa b) (fun σ' a' w' hq hr' => hQ b σ' a' w' hq hr') fuel (listed.setIfInBounds n0 true) _ a2 w2 (by have:=unlisted_set listed n0 hlt hset;omega) (by simpa using hs) hcl' ?_ hr2
    have:((indexed 0 ops).filter fun x => !(listed.setIfInBounds n0 true).getD x.1 false)=after:=by
     rw [hsp,List.filter_append,List.filter_cons]
     have e1:(before.filter fun x => !(listed.setIfInBounds n0 true).getD x.1 false) = []:=by
      rw [List.filter_eq_nil_iff]
      intro z hz
      rw [getD_set _ _ _ hlt]
      simp [hall' z hz]
     have e2:(after.filter fun x => !(listed.setIfInBounds n0 true).getD x.1 false)=after:=by
      rw [List.filter_eq_self]
      intro z hz
      rw [getD_set _ _ _ hlt]
      have hz1:=(ham z hz).1
      have hz2:listed.getD z.1 false=false:=by
       cases hzz:listed.getD z.1 false with
       |false=>rfl
       |true=>
        have:=clos_listed hE hcl z.1 z.2 (ham z hz).2 (hcl z.1 z.2 (ham z hz).2 hzz) n0 (hca z hz)
        rw [hn] at this;cases this
      rw [hz2]
      simp;omega
     rw [e1,e2,getD_set _ _ _ hlt]
     simp
    rw [this]
    exact haf b
   ·-- behind the call: it has not come yet
    have:=clos_listed hE hcl i o ho' h2 n0 (hca (i,o) hin)
    rw [hn] at this;cases this
theorem PWJ.draw (hT:T=tabOf P) (hm:P.follows .mixedOrders=true) {l d:Nat} {A:List (List PV)→Prop} (hgiv:∀b,Old Φ0 W b→¬Mix Φ0.imm b) (hy:YOK P E l A Φ0.imm W.heap.size) (hr:Φ0.round=none) {id:Nat} (hall2:(ops.all (dstB M) && Nat.ble (1000 * id+ops.length) 1000000)=true) {n0:Nat} (hd:drawY ops n0=true)
  {before after:List (Nat×Oper)} {y:Oper} (hsp:indexed 0 ops=before ++ (n0,y) :: after) {pre:List (List PV)} {x:List PV} (hk:κ=some pre)
  (h:PWops P T ops.toArray (1000 * id) (okR ops (1000 * id)) before (fun σ' => YAt l A M pre x y d σ'∧∀b:Bool,PWops P T ops.toArray (1000 * id) (okR ops (1000 * id)) after (fun σ'' => Q .normal σ'' (if b then some (pre ++ [x]) else none)) (ybehind σ' d b)) σ) :
  PWJ E Φ0 W P M (.region id ops.toArray true) Q σ κ:=by
 intro a w hrel
 subst hk
 have hall2':=hall2
 simp only [Bool.and_eq_true] at hall2'
 obtain ⟨hall,hb0⟩:=hall2'
 have hbase:=Nat.le_of_ble_eq_true hb0
 refine wpIn_region_any hm ?_
 have hn0:n0 < ops.length:=by
  have:(n0,y)∈indexed 0 ops:=by rw [hsp];exact List.mem_append.2 (.inr List.mem_cons_self)
  obtain ⟨-,h2⟩:=indexed_mem 0 ops _ this
  exact (List.getElem?_eq_some_iff.1 (by simpa using h2)).1
 refine any_soundY (base:=1000 * id) (d:=d) (Qa:=fun b σ'' => Q .normal σ'' (if b then some (pre ++ [x]) else none)) hT (by simpa using hbase) (by
  intro j o hj
  exact List.all_eq_true.1 hall o (mem_of_get (by simpa using hj))) hd hgiv hy hr hsp (fun b σ' a' w' hq hr' => ⟨σ',_,hq,hr'⟩) _ _ σ a _ ?_ (by simp) ?_ ?_ ?_ hrel.drew
 ·unfold unlisted
  exact Nat.le_trans List.countP_le_length (by simp)
 ·intro i o ho hl
  simp [Array.getD_eq_getD_getElem?,Array.getElem?_replicate] at hl
  split at hl<;>simp_all
 ·simp [Array.getD_eq_getD_getElem?,Array.getElem?_replicate]
  split<;>rfl
 ·have:(before.filter fun x => !(Array.replicate ops.toArray.size false).getD x.1 false)=before:=by
   rw [List.filter_eq_self]
   intro x _
   simp [Array.getD_eq_getD_getElem?,Array.getElem?_replicate]
   split<;>rfl
  rw [this]
  exact h
theorem PWJ.drawN (n0:Nat) (hT:T=tabOf P) (hm:P.follows .mixedOrders=true) {l d:Nat} {A:List (List PV)→Prop} (hgiv:∀b,Old Φ0 W b→¬Mix Φ0.imm b) (hy:YOK P E l A Φ0.imm W.heap.size) (hr:Φ0.round=none) {id:Nat} (hall2:(ops.all (dstB M) && Nat.ble (1000 * id+ops.length) 1000000)=true) (hd:drawY ops n0=true)
  {y:Oper} (hsp:ops[n0]? = some y) {pre:List (List PV)} {x:List PV} (hk:κ=some pre)
  (h:PWops P T ops.toArray (1000 * id) (okR ops (1000 * id)) ((indexed 0 ops).take n0) (fun σ' => YAt l A M pre x y d σ'∧∀b:Bool,PWops P T ops.toArray (1000 * id) (okR ops (1000 * id)) ((indexed 0 ops).drop (n0+1)) (fun σ'' => Q .normal σ'' (if b then some (pre ++ [x]) else none)) (ybehind σ' d b)) σ) :
  PWJ E Φ0 W P M (.region id ops.toArray true) Q σ κ:=by
 refine PWJ.draw hT hm hgiv hy hr hall2 hd ?_ hk h
 have hlen:n0 < (indexed 0 ops).length:=by rw [indexed_len];exact (List.getElem?_eq_some_iff.1 hsp).1
 have e1:(indexed 0 ops)[n0]=(n0,y):=by
  have hf:((indexed 0 ops).map (·.1))[n0]? = some n0:=by
   rw [indexed_fst,List.getElem?_range' (by rw [indexed_len] at hlen;exact hlen)];simp
  rw [List.getElem?_map,List.getElem?_eq_getElem hlen] at hf
  have h1:((indexed 0 ops)[n0]).1=n0:=by simpa using hf
  obtain ⟨-,h2⟩:=indexed_mem 0 ops _ (List.getElem_mem hlen)
  rw [h1,Nat.sub_zero,hsp] at h2
  exact Prod.ext h1 (Option.some.inj h2).symm
 rw [←e1]
 exact (List.take_append_drop n0 _).symm.trans (by rw [List.drop_eq_getElem_cons hlen])
theorem PWJ.condT {c:Operand} {x y:Code} (hc:pev σ c = .val (.bool true)) (h:PWJ E Φ0 W P M x Q σ κ):PWJ E Φ0 W P M (.cond c x y) Q σ κ:=PWJ.cond hc h
theorem PWJ.condF {c:Operand} {x y:Code} (hc:pev σ c = .val (.bool false)) (h:PWJ E Φ0 W P M y Q σ κ):PWJ E Φ0 W P M (.cond c x y) Q σ κ:=PWJ.cond hc h
theorem thenJ {y:Code} (h:PWJ E Φ0 W P M y Q σ κ):ThenJ E Φ0 W P M y Q .normal σ κ:=h
theorem thenJ_ret {y:Code} (h:Q .ret σ κ):ThenJ E Φ0 W P M y Q .ret σ κ:=h
theorem thenJ_exit {y:Code} {i:Nat} (h:Q (.exit i) σ κ):ThenJ E Φ0 W P M y Q (.exit i) σ κ:=h
theorem blockJ {id:Nat} (h:Q .normal σ κ):BlockJ id Q .normal σ κ:=h
theorem blockJ_exit {id:Nat} (h:Q .normal σ κ):BlockJ id Q (.exit id) σ κ:=by simpa [BlockJ] using h
theorem blockJ_ret {id:Nat} (h:Q .ret σ κ):BlockJ id Q .ret σ κ:=h
theorem blockJ_other {id j:Nat} (hj:j≠id) (h:Q (.exit j) σ κ):BlockJ id Q (.exit j) σ κ:=by simpa [BlockJ,hj] using h
theorem loopJ {α:Type} {st:α→PS} {kf:α→Come} {I:α→Prop} {m:α→Nat} {x:α} (y:α) (hi:I y) (hm:m y < m x) (hs:Sub M σ (st y)) (hk:κ=kf y):LoopJ M st kf I m x Q .normal σ κ:=⟨y,hi,hm,hs,hk⟩
theorem loopJ_exit {α:Type} {st:α→PS} {kf:α→Come} {I:α→Prop} {m:α→Nat} {x:α} {j:Nat} (h:Q (.exit j) σ κ):LoopJ M st kf I m x Q (.exit j) σ κ:=h
theorem loopJ_ret {α:Type} {st:α→PS} {kf:α→Come} {I:α→Prop} {m:α→Nat} {x:α} (h:Q .ret σ κ):LoopJ M st kf I m x Q .ret σ κ:=h
def RetJ (T:Tab) (rs:List ResultVar) (S:List (List PV)→Prop):Exit→PS→Come→Prop
 | .ret,σ,κ=>(∃r,presult T σ rs=some r)∧∀xs,κ=some xs→S xs
 | .normal,σ,κ=>(∃r,presult T σ rs=some r)∧∀xs,κ=some xs→S xs
 |_,_,_=>False
theorem itspec_of_pwj (hT:T=tabOf P) {f:FuncId} {fn:Func} {c:Code} {caps:List PV} {A S:List (List PV)→Prop} (hf:P.funcs[f]? = some fn) (hb:fn.body=some c) (hcb:callB P f=true) (hlow:∀p∈caps,Low p) (hno:∀p∈caps,p.ownB=false) (hn:caps.length+1≤fn.ntmps)
  (h:∀(E:ItEnv) (Φ0:Ent) (W:World) (l:Nat),(∀b,Old Φ0 W b→¬Mix Φ0.imm b)→YOK P E l A Φ0.imm W.heap.size→Φ0.round=none→PWJ E Φ0 W P fn.ntmps c (RetJ T fn.results.toList S) (initS (.val (.func (.yield l) #[] #[]) :: caps)) (some [])):ItSpec P f caps A S:=by
 refine ⟨hcb,fun E l Φe w vs himm hgl hrep hy hJ=>(callsIn_wide (n:=0)).1 (callsIn_of_wp_marks hf hb trivial ?_)⟩
 have hext:∀b o u,Φe b o=some u→b < w.heap.size:=fun b o u e=>World.block_lt_of_cell? _ _ (himm b o u e)
 let Φ0:Ent:=⟨Φe,fun b=>b < w.heap.size∧Mix Φe b,fun _=>none,hgl,fun g hg=>hg.2,[],none⟩
 have hgiv:∀b,Old Φ0 w b→¬Mix Φ0.imm b:=fun b hb hm=>hb.2 ⟨hb.1,hm⟩
 have hrep' : RepL Φe mu0 (.val (.func (.yield l) #[] #[]) :: caps) (.func (.yield l) #[] #[] :: vs):=RepL.cons (.val _ rfl) hrep
 have hargs:(#[.func (.yield l) #[] #[]] ++ vs.toArray:Array Value)=(.func (.yield l) #[] #[] :: vs:List Value).toArray:=by
  apply Array.ext'; simp
 rw [hargs]
 have hlow' : ∀p∈(PV.val (.func (.yield l) #[] #[]) :: caps),Low p:=by
  intro p hp
  rcases List.mem_cons.1 hp with rfl|hp
  ·exact .val _
  ·exact hlow p hp
 have hno' : ∀p∈(PV.val (.func (.yield l) #[] #[]) :: caps),p.ownB=false:=by
  intro p hp
  rcases List.mem_cons.1 hp with rfl|hp
  ·rfl
  ·exact hno p hp
 have hg:RelG Φ0 w fn.ntmps Φe mu0 (fun _=>none) (initS (.val (.func (.yield l) #[] #[]) :: caps)) { tmps:=(.func (.yield l) #[] #[] :: vs:List Value).toArray ++ Array.replicate (fn.ntmps - (.func (.yield l) #[] #[] :: vs:List Value).toArray.size) undef,defers := [] } w:=by
  refine ⟨Kept.refl _ _,⟨rfl,fun _ e=>by cases e⟩,by simp [hrep.1];omega,himm,fun _ _ _=>rfl,fun t=>?_,fun t n k cs E e=>?_,fun id bs e=>(by cases e),fun _ _ _=>rfl,fun g p e=>(by cases e),fun id g e=>(by cases e),fun id g e=>(by cases e),fun b o u e=>⟨e,hext b o u e⟩,fun id X e=>(by cases e),fun g p e=>(by cases e)⟩
  ·simp only [initS]
   cases ht:(PV.val (.func (.yield l) #[] #[]) :: caps)[t]? with
   |none=>exact .undef _
   |some p=>
    obtain ⟨u,hu,hru⟩:=hrep'.get ht
    have hlt:t < (.func (.yield l) #[] #[] :: vs:List Value).length:=(List.getElem?_eq_some_iff.1 hu).1
    have:((.func (.yield l) #[] #[] :: vs:List Value).toArray ++ Array.replicate (fn.ntmps - (.func (.yield l) #[] #[] :: vs:List Value).toArray.size) undef).getD t undef=u:=by
     rw [Array.getD_eq_getD_getElem?,Array.getElem?_append_left (by simpa using hlt)]
     rw [List.getElem?_toArray,hu];rfl
    rw [this]
    exact hru
  ·simp only [initS] at e
   cases ht:(PV.val (.func (.yield l) #[] #[]) :: caps)[t]? with
   |none=>rw [ht] at e;simp at e
   |some p=>
    rw [ht] at e
    simp at e
    have:=hno' p (mem_of_get ht)
    rw [e] at this;simp [PV.ownB] at this
 have hoff:offI Φe (fun _=>none)=Φe:=by funext b o;exact freshI_eq (fun p e=>by cases e)
 have hrel:RelJ E Φ0 w fn.ntmps (some []) (initS (.val (.func (.yield l) #[] #[]) :: caps)) { tmps:=(.func (.yield l) #[] #[] :: vs:List Value).toArray ++ Array.replicate (fn.ntmps - (.func (.yield l) #[] #[] :: vs:List Value).toArray.size) undef,defers := [] } w:=
  ⟨Φ0,w,Φe,mu0,fun _=>none,fun _=>False,Later.refl _ _,hg,by rw [hoff];exact hJ,fun g h=>h.elim,fun g p e=>(by cases e),fun b o u hb e=>(by have:=hext b o u e;omega),fun b o hb=>rfl,fun m hm=>(by cases hm)⟩
 refine wpIn_mono (h E Φ0 w l hgiv hy rfl _ w hrel) ?_
 rintro e a' w0 ⟨σ',κ,hq,hr⟩
 have fin:((∃r,presult T σ' fn.results.toList=some r)∧∀xs,κ=some xs→S xs)→LeavesInM (FW none) 0 P fn a'.tmps (fun e w' => ∃v κ K,e = .returned v∧(∀xs,κ=some xs→S xs)∧E.J κ (fun _=>False) K w') a'.defers .returning w0:=by
  rintro ⟨⟨r,hpr⟩,hS⟩
  obtain ⟨Φ1,W1,Φ,μ,ω,I,hl,hg,hJ,h1,h2,h3,h4,h5⟩:=hr
  obtain ⟨ms,hd1,hd2,hd3,hg'⟩:=RelG.shut (Φ0:=Φ0) rfl rfl hl hg
  rw [hd1]
  refine leaves_shut ms w0 hd2 hd3 ?_
  obtain ⟨v,r1,r2,r3⟩:=results_run hT hg' hpr
  refine ⟨v,r1,v,κ,offI Φ ω,rfl,hS,E.step hJ ?_ (fun g hh=>hh.elim) (fun b o u e _=>e) (fun b o u e=>?_)⟩
  ·obtain ⟨k1,k2,k3⟩:=shut_os ms w0
   refine ⟨k1,k2,k3,Nat.le_of_eq (shut_size ms w0).symm,fun k hk=>shut_other ms w0 k fun hm=>hk.2 (h5 k ?_)⟩
   obtain ⟨ms',e1,-,-⟩:=hl.marks
   have e2:Φ1.marks=ms':=by rw [e1];exact List.append_nil _
   have e3:=hg.defers.1
   rw [hd1,e2] at e3
   have:ms=ms':=by
    have hinj:∀(l l' : List Nat),l.map collD=l'.map collD→l=l':=by
     intro l
     induction l with
     |nil=>intro l' e;cases l' with
      |nil=>rfl
      |cons=>cases e
     |cons x l ih=>intro l' e;cases l' with
      |nil=>cases e
      |cons y l' =>
       simp only [List.map_cons,List.cons.injEq] at e
       have hxy:x=y:=by
        have:=e.1
        simp only [collD,Deferred.mk.injEq,Target.collected.injEq] at this
        exact this.1
       rw [hxy,ih l' e.2]
    exact hinj _ _ e3
   rw [e2,←this];exact hm
  ·exact hg'.imm b o u (offI_some.1 e).2
 cases e with
 |ret=>exact fin hq
 |normal=>exact fin hq
 |_=>exact hq.elim
end
section
open Go.RowKit
variable {Φ0:Ent} {W:World} {M:Nat} {Φ:Imm} {μ:Nat→Option Nat} {ω:Nat→Option Who} {σ:PS} {a:Act} {w:World} {P:Program} {T:Tab}
theorem RelG.boxTake (h:RelG Φ0 W M Φ μ ω σ a w) {id:Nat} {bs cs r:List PV} (hb:σ.b id=some bs) (hc:bs=cs ++ r):RelG Φ0 W M Φ μ ω { σ with b:=upd σ.b id (some cs) } a w:=by
 subst hc
 refine { h with box:=fun i bs' e=>?_,gone:=fun i e em=>?_,kmu:=fun i g e hi=>?_ }
 ·by_cases hi:i=id
  ·subst hi
   simp only [upd_if,if_true] at e
   cases e
   obtain ⟨g,cur,T,h1,h2,h3,h4,h5,h6,h7⟩:=h.box i _ hb
   refine ⟨g,cur,T,h1,h2,h3,h4,h5,by simp at h6;omega,fun j c hc=>h7 j c ?_⟩
   rw [List.getElem?_append_left (List.getElem?_eq_some_iff.1 hc).1];exact hc
  ·simp only [upd_if,if_neg hi] at e;exact h.box i bs' e
 ·by_cases hi:i=id
  ·subst hi;simp only [upd_if,if_true] at e;cases e
  ·simp only [upd_if,if_neg hi] at e;exact h.gone i e em
 ·by_cases hi' : i=id
  ·subst hi'; exact h.kmu i g e (.inl (by rw [hb];simp))
  ·simp only [upd_if,if_neg hi'] at hi;exact h.kmu i g e hi
theorem RelG.appendBox (h:RelG Φ0 W M Φ μ ω σ a w) {s d id:Nat} (hlow:id < 1000000) (hid:σ.b id=none) (hmid:σ.m id=none) (hd:d < M) {m k cap g:Nat} {ds:List PV} {e:TypeId} {cur:Array Value} {news:List Value}
  (hg:w.heap[g]? = some (.cells cur e (0,0))) (hroom:m≤cap) (hcur:cur.size=cap * k) (hω:ω g=some (.tmp s)) (hfree:∀j,Φ g j=none) (hB:Mine Φ0 W g) (hcap:cap≤maxLen)
  (hds:ds.length=m * k) (hn:RepL Φ μ ds news) (hone:∀u∈news,u.oneCell' = true) (hno:∀c∈ds,c.ownB=false) :
  Rel Φ0 W M { t:=upd (upd σ.t s (σ.t s).bare) d (.msl id 0 m k),b:=upd σ.b id (some ds),m:=σ.m } (a.put (some d) (.slice (some ⟨g,0,none⟩) m cap)) (w.setRow g (news ++ cur.toList.drop news.length).toArray):=by
 have hd' : d < a.tmps.size:=by rw [h.size];exact hd
 have hlt:g < w.heap.size:=(Array.getElem?_eq_some_iff.1 hg).1
 have hmk:m * k≤cap * k:=Nat.mul_le_mul_right _ hroom
 have hnl:=hn.1
 have hμ:∀i g',μ i=some g'→upd μ id (some g) i=some g':=by
  intro i g' e'
  simp only [upd_if]
  rw [if_neg (by rintro rfl;rw [h.gone _ hid hmid] at e'; cases e')];exact e'
 have hω' : ∀g' p,ω g' = some p→p≠.tmp s→upd ω g (some (.box id)) g' = some p:=by
  intro g' p eg hp
  simp only [upd_if]
  rw [if_neg (by rintro rfl;rw [hω] at eg;cases eg;exact hp rfl)]
  exact eg
 have hstep:∀q n' k' E v,q≠.tmp s→OwnAt (Mine Φ0 W) Φ ω w q n' k' E v→OwnAt (Mine Φ0 W) Φ (upd ω g (some (.box id))) (w.setRow g (news ++ cur.toList.drop news.length).toArray) q n' k' E v:=by
  intro q n' k' E v hq hh
  refine hh.step (fun g' eg=>?_)
  have hne:g'≠g:=by rintro rfl;rw [hω] at eg;cases eg;exact hq rfl
  exact ⟨setRow_other w g g' _ hne,fun j=>rfl,hω' g' q eg hq⟩
 refine ⟨Φ,upd μ id (some g),upd ω g (some (.box id)),?_,h.defers,by simp [Act.put,h.size],?_,h.old,fun t=>?_,fun t n' k' cs' E' et=>?_,fun i bs eb=>?_,?_,?_,h.gmu,?_,h.ext,fun i X e' => (h.map i X e').step (fun _ _ _ e=>e) hμ (fun q hq g' eg=>?_),fun g' p e' => ?_⟩
 ·exact h.below.trans ⟨rfl,rfl,rfl,by simp,fun j hj=>setRow_other w g j _ (hB.ne hj)⟩
 ·intro b o u eu
  have hb:b≠g:=by rintro rfl;rw [hfree] at eu;cases eu
  have:=h.imm b o u eu
  simp only [World.cell?] at this ⊢
  rw [setRow_other w g b _ hb];exact this
 ·rw [getD_put _ _ _ _ hd']
  simp only [upd_if]
  by_cases ht:t=d
  ·simp only [if_pos ht]
   exact .msl id 0 m k _ cap (fun _=>⟨g,by simp [upd_if],rfl⟩) hroom hcap
  ·simp only [if_neg ht]
   by_cases hts:t=s
   ·subst hts;simp only [if_true];exact ((h.tmps t).mono (fun _ _ _ e=>e) hμ).bare
   ·simp only [if_neg hts];exact (h.tmps t).mono (fun _ _ _ e=>e) hμ
 ·rw [getD_put _ _ _ _ hd']
  simp only [upd_if] at et
  by_cases ht:t=d
  ·simp only [if_pos ht] at et;cases et
  ·simp only [if_neg ht] at et ⊢
   by_cases hts:t=s
   ·simp only [if_pos hts] at et
    have:=PV.bare_own (σ.t s);rw [et] at this;simp [PV.ownB] at this
   ·simp only [if_neg hts] at et
    exact hstep _ _ _ _ _ (by simp [hts]) (h.own t n' k' cs' E' et)
 ·by_cases hi:i=id
  ·subst hi
   simp only [upd_if,if_true] at eb
   cases eb
   refine ⟨g,_,e,by simp [upd_if],setRow_heap w g cur _ e _ hg,hB,by simp [upd_if],hfree,by simp;omega,fun j c hc=>?_⟩
   obtain ⟨u,hu,hru⟩:=hn.get hc
   refine ⟨u,?_,hone u (mem_of_get hu),hru.mono (fun _ _ _ e=>e) hμ,fun n k cs E e' => ?_⟩
   ·rw [List.getElem?_toArray,List.getElem?_append_left (List.getElem?_eq_some_iff.1 hu).1];exact hu
   ·have:=hno c (mem_of_get hc)
    rw [e'] at this;simp [PV.ownB] at this
  ·simp only [upd_if,if_neg hi] at eb
   obtain ⟨g2,cur',Ty,h1,h2',h3,h4,h5,h6,h7⟩:=h.box i bs eb
   have hne:g2≠g:=by rintro rfl;rw [hω] at h4;cases h4
   refine ⟨g2,cur',Ty,hμ _ _ h1,by rw [setRow_other w g g2 _ hne];exact h2',h3,hω' g2 _ h4 (by simp),h5,h6,fun j c hc=>?_⟩
   obtain ⟨u,r1,r2,r3,r4⟩:=h7 j c hc
   exact ⟨u,r1,r2,r3.mono (fun _ _ _ e=>e) hμ,fun n k cs E e=>hstep _ _ _ _ _ (by simp) (r4 n k cs E e)⟩
 ·intro i e' em
  by_cases hi:i=id
  ·subst hi;simp [upd_if] at e'
  ·simp only [upd_if,if_neg hi] at e' ⊢; exact h.gone i e' em
 ·intro g' p eg
  simp only [upd_if] at eg
  split at eg
  ·subst g'; simpa using hlt
  ·simpa using h.lt g' p eg
 ·intro i g' e' hi
  have hne:i≠id:=by have:=h.gmu i g' e'; omega
  simp only [upd_if,if_neg hne] at hi ⊢
  exact h.kmu i g' e' hi
 ·have hne:g'≠g:=by rintro rfl;rw [hω] at eg;cases eg;rcases hq with hq|⟨j,hq⟩<;>cases hq
  exact ⟨setRow_other w g g' _ hne,fun j=>rfl,hω' g' q eg (by rintro rfl;rcases hq with hq|⟨j,hq⟩<;>cases hq)⟩
 ·simp only [upd_if] at e'
  split at e'
  ·subst g'; exact hB
  ·exact h.mine g' p e'
theorem Rel.freshBox (h:RelG Φ0 W M Φ μ ω σ a w) {s d id:Nat} (hlow:id < 1000000) (hid:σ.b id=none) (hmid:σ.m id=none) (hd:d < M) {m k cap:Nat} {ds:List PV} {news:List Value} {rest:Array Value} (T:TypeId) (hroom:m≤cap) (hcap:cap≤maxLen) (hn:RepL Φ μ ds news) (hone:∀u∈news,u.oneCell' = true) (hone2:∀u∈rest.toList,u.oneCell' = true) (hno:∀c∈ds,c.ownB=false) :
  Rel Φ0 W M { t:=upd (upd σ.t s (σ.t s).bare) d (.msl id 0 m k),b:=upd σ.b id (some ds),m:=σ.m } (a.put (some d) (.slice (some ⟨w.heap.size,0,none⟩) m cap)) (w.drew.alloc (.cells (news.toArray ++ rest) T)):=by
 have h1:=h.drew.newBox hlow hid hmid (bs:=ds ++ List.replicate rest.size .undef) (us:=news ++ rest.toList) ⟨by simp [hn.1],fun j c u hc hu=>by
  by_cases hj:j < ds.length
  ·rw [List.getElem?_append_left hj] at hc
   rw [List.getElem?_append_left (by rw [hn.1];exact hj)] at hu
   exact hn.2 j c u hc hu
  ·rw [List.getElem?_append_right (by omega)] at hc
   rw [(List.mem_replicate.1 (List.mem_of_getElem? hc)).2]
   exact .undef _⟩ (fun u hu=>by
    rcases List.mem_append.1 hu with hu|hu
    ·exact hone u hu
    ·exact hone2 u hu) (fun c hc=>by
    rcases List.mem_append.1 hc with hc|hc
    ·exact hno c hc
    ·rw [(List.mem_replicate.1 hc).2];rfl) T
 have h2:=h1.boxTake (id:=id) (cs:=ds) (bs:=ds ++ List.replicate rest.size .undef) (r:=List.replicate rest.size .undef) (by simp [upd_if]) rfl
 have h3:=h2.strip s
 have h4:=h3.put hd (p:=.msl id 0 m k) (v:=.slice (some ⟨w.heap.size,0,none⟩) m cap) (.msl id 0 m k _ cap (fun _=>⟨w.heap.size,by simp [upd_if],rfl⟩) hroom hcap) rfl
 have e:(news ++ rest.toList).toArray=news.toArray ++ rest:=by simp
 have e2:upd (upd σ.b id (some (ds ++ List.replicate rest.size .undef))) id (some ds)=upd σ.b id (some ds):=by
  funext j;simp only [upd_if];by_cases hj:j=id<;>simp [hj]
 rw [e] at h4
 have:({ t:=upd (upd σ.t s (σ.t s).bare) d (.msl id 0 m k),b:=upd σ.b id (some ds),m:=σ.m } : PS)=PS.put { σ with t:=upd σ.t s (σ.t s).bare,b:=upd (upd σ.b id (some (ds ++ List.replicate rest.size .undef))) id (some ds) } d (.msl id 0 m k):=by
  rw [e2];rfl
 rw [this]
 exact ⟨_,_,_,h4⟩
theorem appN_does (hT:T=tabOf P) (h:RelG Φ0 W M Φ μ ω σ a w) (o:Oper) {d s id:Nat} (hlow:id < 1000000) (hid:σ.b id=none) (hmid:σ.m id=none) (hd:o.dst=some d) (hM:d < M) {x:Operand} {t:TypeId} (hop:o.op = .call { callee:=.builtin .append,args := #[.tmp s,x],argTypes := #[t,t] })
  {ti:TyI} (ht:T.at t=some ti) {m e k by_:Nat} {ds zr:List PV} {own:Option TypeId} (hk:ti.kind = .slice e k by_ zr) (hs:σ.t s = .nilsl∨σ.t s = .sl 0 k [] (some e)) (he:e < 1000000) (hx:pev σ x = .sl m k ds own) (c1:m * by_≤140737488355328) (c2:m≤140737488355328) (h0:0 < m) (c3:ds.all PV.one=true) (hno:∀c∈ds,c.ownB=false) :
  Does P Φ0 W M a w o { t:=upd (upd σ.t s (σ.t s).bare) d (.msl id 0 m k),b:=upd σ.b id (some ds),m:=σ.m }:=by
 have ht' : tyI P t=some ti:=by rw [hT] at ht;exact tab_at rfl ht
 obtain ⟨hu,i,z,e1,e2,e3,e4,e5,e6,e7,-⟩:=slice_get ht' hk
 have hrun:∀v' w',(Builtin.append_ #[t,t] o.type #[a.eval (.tmp s),a.eval x]).run P w = .ok v' w'→(execOp a.eval o).run P w = .ok (.value v') w':=by
  intro v' w' hr
  simp only [execOp,hop,resolve,invoke,builtin,Sem.run_bind,Sem.run_pure,Result.andThen_ok,List.map_toArray,List.map_cons,List.map_nil,hr]
 have hml:m≤maxLen:=by unfold maxLen;omega
 have hxx:∃ad cx news,a.eval x = .slice ad m cx∧(0 < m→∃adr,ad=some adr∧∀j u,news[j]? = some u→w.cell? (adr.add j)=some u)∧RepL Φ μ ds news∧(∀u∈news,u.oneCell' = true)∧ds.length=m * k:=by
  have hxr:=h.ev x
  rw [hx] at hxr
  obtain ⟨ad,b,off,cap,us,hv,q1,q2,q3,q4,q5,q6⟩:=hxr.sl_inv
  have hrl:=repL_of_us ds us q6
  refine ⟨ad,cap,_,hv,fun hpos=>⟨_,q4 hpos,?_⟩,hrl,repL_one hrl c3,q3⟩
  intro j u hj
  rw [Addr.add_lit]
  have hjl:j < ds.length:=by have:=(List.getElem?_eq_some_iff.1 hj).1;simpa using this
  simp [hjl] at hj
  subst hj
  exact h.imm _ _ _ (q5 j hjl)
 obtain ⟨ad,cx,news,hxv,hxa,hxr,hxo,hdl⟩:=hxx
 have hnl:news.length=m * k:=by rw [hxr.1,hdl]
 obtain ⟨adr,rfl,hcells⟩:=hxa h0
 have hz:∀q,∀u∈(Builtin.zeroCells z.cells q).toList,u.oneCell' = true:=by
  intro q u hu
  have hpos:0 < z.cells.size:=by rw [e5];exact e6
  simp only [Builtin.zeroCells,Array.toList_map,List.mem_map] at hu
  obtain ⟨j,-,rfl⟩:=hu
  have hj:j % z.cells.size < z.cells.size:=Nat.mod_lt _ hpos
  rw [getElem!_pos z.cells _ hj]
  exact e7 _ (Array.getElem_mem_toList hj)
 have nilc:a.eval (.tmp s) = .slice none 0 0→Does P Φ0 W M a w o { t:=upd (upd σ.t s (σ.t s).bare) d (.msl id 0 m k),b:=upd σ.b id (some ds),m:=σ.m }:=by
  intro hs0
  have hr:=run_append_nil (P:=P) w t o.type e i z hu e1 e2 adr m cx news (by rw [hnl,e3]) hcells (by omega) (by omega) (by rw [e4];omega)
  refine ⟨_,_,_,hrun _ _ (by rw [hs0,hxv];exact hr), .inl rfl,?_⟩
  rw [hd]
  exact Rel.freshBox h hlow hid hmid hM e (grownCap_ge w m 0 e) (grownCap_le_maxLen w m 0 e (by omega)) hxr hxo (hz _) hno
 have grow:∀(ad2:Addr) cap,a.eval (.tmp s) = .slice (some ad2) 0 cap→cap≤maxLen→¬(m≤cap)→Does P Φ0 W M a w o { t:=upd (upd σ.t s (σ.t s).bare) d (.msl id 0 m k),b:=upd σ.b id (some ds),m:=σ.m }:=by
  intro ad2 cap hsv hcapm hroom
  have hr:=run_append_grow (P:=P) w t o.type e i z hu e1 e2 ad2 0 cap [] (by simp) (fun j u hj=>by simp at hj) adr m cx news (by rw [hnl,e3]) hcells (by omega) (by omega) (growslice_fits (by omega) (by rw [e4,Nat.zero_add];exact c1))
  refine ⟨_,_,_,hrun _ _ (by rw [hsv,hxv];exact hr), .inl rfl,?_⟩
  rw [hd]
  have:=Rel.freshBox h (s:=s) hlow hid hmid hM (k:=k) (rest:=Builtin.zeroCells z.cells (grownCap w (0+m) cap e - (0+m))) e (Nat.le_trans (Nat.le_of_eq (Nat.zero_add m).symm) (grownCap_ge w (0+m) cap e)) (grownCap_le_maxLen w (0+m) cap e (by omega)) hxr hxo (hz _) hno
  simpa using this
 rcases hs with hs|hs
 ·have:=h.tmps s
  rw [hs] at this
  exact nilc this.nilsl_inv
 ·rcases h.own s 0 k [] e hs with ⟨hnil,-⟩|⟨g,cap,cur,hv,hB,hg,q1,q2,q3,q4,q5⟩|⟨hfull,-⟩
  ·exact nilc hnil
  ·have hsv:a.eval (.tmp s) = .slice (some ⟨g,0,none⟩) 0 cap:=hv
   by_cases hroom:m≤cap
   ·have hfit:0 * i.size+news.length≤cur.size:=by rw [hnl,q3,Nat.zero_mul,Nat.zero_add];exact Nat.mul_le_mul_right _ hroom
    have hr:=run_append_room (P:=P) w t o.type e i hu e1 g 0 cap cur hg adr m cx news (by rw [hnl,e3]) hcells hxo (by omega) hfit
    refine ⟨_,_,_,hrun _ _ (by rw [hsv,hxv];exact hr), .inl rfl,?_⟩
    rw [hd]
    have:=h.appendBox (s:=s) hlow hid hmid hM hg hroom q3 q4 (fun j=>q5.2 j (by rw [Nat.zero_mul];omega)) hB q2 hdl hxr hxo hno
    simpa using this
   ·exact grow _ cap hsv q2 hroom
  ·exact absurd hfull (Nat.not_le.2 he)
end
section
open Go.RowKit
variable {P:Program} {T:Tab} {σ:PS} {o:Oper} {i base:Nat} {ops:Array Oper} {ok:Nat→Nat→Bool} {rest:List (Nat×Oper)} {K:PS→Prop}
theorem PWops.appN {d s m k e by_:Nat} {ds zr:List PV} {own:Option TypeId} {x:Operand} {t:TypeId} {sz:Nat} {ag:Bool} {zz:List PV} {es:List SK} (hT:T=tabOf P) (hg:pguard ops σ o=some true) (hok:∀j id,ok j id=true) (hd:o.dst=some d) (hop:o.op = .call { callee:=.builtin .append,args := #[.tmp s,x],argTypes := #[t,t] })
  (hs:σ.t s = .nilsl∨σ.t s = .sl 0 k [] (some e)) (hx:pev σ x = .sl m k ds own) (ht:T.at t=some ⟨sz,ag, .slice e k by_ zr,zz,es⟩) (hb:σ.freeB (base+i)=true) (hlow:Nat.blt (base+i) 1000000=true) (he:Nat.blt e 1000000=true) (h1:m * by_≤140737488355328) (h2:m≤140737488355328) (h0:0 < m) (hone:ds.all PV.one=true) (hno:ds.all (fun c => !c.ownB)=true)
  (kn:PWops P T ops base ok rest K (((σ.put s (σ.t s).bare).setb (base+i) ds).put d (.msl (base+i) 0 m k))):PWops P T ops base ok ((i,o) :: rest) K σ:=by
 refine PWops.sem (E:=⟨.msl (base+i) 0 m k,[(base+i,ds)],some s,[]⟩) hg hok ?_ (by rw [hd];exact kn)
 intro Φ0 W M a w hM hrel
 obtain ⟨Φ,μ,ω,hr⟩:=hrel
 obtain ⟨q1,q2⟩:=PS.freeB_spec hb
 have:=appN_does hT hr o (id:=base+i) (by simpa [Nat.blt_eq] using hlow) q1 q2 hd (hM d hd) hop ht rfl hs (by simpa [Nat.blt_eq] using he) hx h1 h2 h0 hone (fun c hc=>by simpa using List.all_eq_true.1 hno c hc)
 rw [hd]
 exact this
end
section
open Go.RowKit
variable {Φ0:Ent} {W:World} {M:Nat} {Φ:Imm} {μ:Nat→Option Nat} {ω:Nat→Option Who} {σ:PS} {a:Act} {w:World} {P:Program} {T:Tab}
theorem RelG.still (h:RelG Φ0 W M Φ μ ω σ a w) {g:Nat} {cur:Array Value} {Ty:TypeId} (hg:w.heap[g]? = some (.cells cur Ty (0,0))) (hB:Mine Φ0 W g) (hω:ω g=none) (hΦ:∀j,Φ g j=none):RelG Φ0 W M (immRow Φ g cur) μ ω σ a w:=by
 refine h.grow h.below ?_ ?_ ?_ ?_ (Nat.le_refl _)
 ·intro b o u e
  unfold immRow at e
  split at e
  ·subst b;simp only [World.cell?,hg];simpa using e
  ·exact h.imm b o u e
 ·intro b o hb;unfold immRow;rw [if_neg];rintro rfl;exact hB.ne hb rfl
 ·intro b o u e;unfold immRow;rw [if_neg]
  ·exact e
  ·rintro rfl;rw [hΦ] at e;cases e
 ·intro g' p e
  refine ⟨rfl,fun j=>?_⟩
  unfold immRow;rw [if_neg];rintro rfl;rw [hω] at e;cases e
theorem RelG.see (h:RelG Φ0 W M Φ μ ω σ a w) {s:Nat} {p:PV} (hp:Rep Φ μ p (a.tmps.getD s undef)) (ho:p.ownB=false):RelG Φ0 W M Φ μ ω (σ.put s p) a w:=by
 refine { h with tmps:=fun u=>?_,own:=fun u n k cs E e=>?_ }
 ·by_cases hu:u=s
  ·subst hu;simp only [PS.put,upd_if,if_true];exact hp
  ·simp only [PS.put,upd_if,if_neg hu];exact h.tmps u
 ·by_cases hu:u=s
  ·subst hu;simp only [PS.put,upd_if,if_true] at e;rw [e] at ho;simp [PV.ownB] at ho
  ·simp only [PS.put,upd_if,if_neg hu] at e ⊢; exact h.own u n k cs E e
theorem Sub.freeze {σ' : PS} {id s n k:Nat} {cs:List PV} (hb:σ.b id=some cs) (hs:σ.t s = .msl id 0 n k) (hl:cs.length=n * k) (hlow:∀c∈cs,Low c) (hsub:SubR (fun i=>i) (Kn σ') σ σ') (hid:σ'.freeB id=true):Sub M σ (σ'.put s (.sl n k cs none)):=by
 rintro Φ0 W a w ⟨Φ,μ,ω,hg⟩
 have h1:=hsub.rel (fun i hi=>hi.spec) (fun i j _ _ e=>e) (fun i _ _ _=>rfl) hg
 obtain ⟨g,cur,Ty,b1,b2,b3,b4,b5,b6,b7⟩:=hg.box id cs hb
 have hun:unren (fun i=>i) (Kn σ') (ω g)=none:=by
  rw [b4]
  unfold unren
  split
  ·rename_i h2;cases h2
  ·split
   ·rename_i hh
    obtain ⟨q,⟨i,hi,hq⟩,e⟩:=hh
    exfalso
    rcases hq with rfl|⟨j,rfl⟩
    ·simp only [renW,Option.some.injEq,Who.box.injEq] at e
     subst e
     rw [Kn,hid] at hi;cases hi
    ·simp [renW] at e
   ·rfl
 have h2:=h1.still b2 b3 hun b5
 refine ⟨_,_,_,h2.see ?_ rfl⟩
 have hv:=hg.tmps s
 rw [hs] at hv
 obtain ⟨ad,cap,hvv,c1,c2,c4⟩:=hv.msl_inv
 rw [hvv]
 rcases Nat.eq_zero_or_pos n with h0|h0
 ·subst h0
  have:cs = []:=List.eq_nil_of_length_eq_zero (by simpa using hl)
  subst this
  exact .sl0 _ _ _ _ (by assumption)
 ·obtain ⟨g',hg',rfl⟩:=c4 h0
  rw [b1] at hg'; cases hg'
  refine .sl n k cs none g 0 cap (fun j=>cur.getD j undef) hl (by assumption) (by assumption) (fun j hj=>?_) (fun j c hc=>?_)
  ·unfold immRow
   rw [if_pos rfl,Nat.zero_add,Array.getD_eq_getD_getElem?]
   rw [Array.getElem?_eq_getElem (by omega)];rfl
  ·obtain ⟨u,r1,r2,r3,-⟩:=b7 j c hc
   rw [Array.getD_eq_getD_getElem?,r1]
   refine Rep.mono (Φ:=Φ) (fun b o u e=>?_) (fun _ _ e=>e) (r3.low (hlow c (mem_of_get hc)))
   unfold immRow
   rw [if_neg]
   ·exact e
   ·rintro rfl;rw [b5] at e;cases e
theorem PW.freeze {σ' : PS} {id s n k:Nat} {cs:List PV} {c:Code} {Q:Exit→PS→Prop} (hb:σ.b id=some cs) (hs:σ.t s = .msl id 0 n k) (hl:cs.length=n * k) (hlow:∀c∈cs,Low c) (hsub:SubR (fun i=>i) (Kn σ') σ σ') (hid:σ'.freeB id=true) (h:PW P M c Q (σ'.put s (.sl n k cs none))):PW P M c Q σ:=
 h.sub (Sub.freeze hb hs hl hlow hsub hid)
theorem Sub.freezeP {σ' : PS} {id s off:Nat} {cs:List PV} (hb:σ.b id=some cs) (hs:σ.t s = .ptr id off) (hlow:∀c∈cs,Low c) (hsub:SubR (fun i=>i) (Kn σ') σ σ') (hid:σ'.freeB id=true):Sub M σ (σ'.put s (.ep cs off)):=by
 rintro Φ0 W a w ⟨Φ,μ,ω,hg⟩
 have h1:=hsub.rel (fun i hi=>hi.spec) (fun i j _ _ e=>e) (fun i _ _ _=>rfl) hg
 obtain ⟨g,cur,Ty,b1,b2,b3,b4,b5,b6,b7⟩:=hg.box id cs hb
 have hun:unren (fun i=>i) (Kn σ') (ω g)=none:=by
  rw [b4]
  unfold unren
  split
  ·rename_i h2;cases h2
  ·split
   ·rename_i hh
    obtain ⟨q,⟨i,hi,hq⟩,e⟩:=hh
    exfalso
    rcases hq with rfl|⟨j,rfl⟩
    ·simp only [renW,Option.some.injEq,Who.box.injEq] at e
     subst e
     rw [Kn,hid] at hi;cases hi
    ·simp [renW] at e
   ·rfl
 have h2:=h1.still b2 b3 hun b5
 refine ⟨_,_,_,h2.see ?_ rfl⟩
 have hv:=hg.tmps s
 rw [hs] at hv
 obtain ⟨g',hg',hvv⟩:=hv.ptr_inv
 rw [b1] at hg'; cases hg'
 rw [hvv]
 have e0:(⟨g,off,none⟩:Addr)=⟨g,0+off,none⟩:=by rw [Nat.zero_add]
 rw [e0]
 refine .ep cs off g 0 (fun j=>cur.getD j undef) (fun j hj=>?_) (fun j c hc=>?_)
 ·unfold immRow
  rw [if_pos rfl,Nat.zero_add,Array.getD_eq_getD_getElem?]
  rw [Array.getElem?_eq_getElem (by omega)];rfl
 ·obtain ⟨u,r1,r2,r3,-⟩:=b7 j c hc
  rw [Array.getD_eq_getD_getElem?,r1]
  refine Rep.mono (Φ:=Φ) (fun b o u e=>?_) (fun _ _ e=>e) (r3.low (hlow c (mem_of_get hc)))
  unfold immRow
  rw [if_neg]
  ·exact e
  ·rintro rfl;rw [b5] at e;cases e
theorem PW.freezeP {σ' : PS} {id s off:Nat} {cs:List PV} {c:Code} {Q:Exit→PS→Prop} (hb:σ.b id=some cs) (hs:σ.t s = .ptr id off) (hlow:∀c∈cs,Low c) (hsub:SubR (fun i=>i) (Kn σ') σ σ') (hid:σ'.freeB id=true) (h:PW P M c Q (σ'.put s (.ep cs off))):PW P M c Q σ:=
 h.sub (Sub.freezeP hb hs hlow hsub hid)
end
end Go.Proofs.YtoamkpgaaanafaaGreat
