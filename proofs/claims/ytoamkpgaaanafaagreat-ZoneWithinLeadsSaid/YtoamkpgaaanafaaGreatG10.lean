/- Out of: PwP, PwQ0, Opens, AttrB, AttrD, PwQ, Row13, PwQ2, Tab. -/
import Derived.Test.YtoamkpgaaanafaaGreatRows
import Derived.WalkKit
import Derived.WalkSpells
import Derived.WalkLawsBesides
import Derived.Deep.QuietTactic
import Derived.BigQuiet
import Derived.RegionTactic
import Derived.Lib.AppendZeros
import Derived.Lib.AppendStr
import Derived.Lib.Hide
import Derived.OrdersIn
import Derived.Laws.BytesString
import Derived.WideLaws
import Derived.RangeFuncRecord
import Derived.Orders
import Derived.ProofKit
import Derived.OpenShut
import Derived.SizedLaws
import Derived.Deep.Slices
import Derived.Lib.LaidU8
import Derived.LaidMore
import Derived.LaidLaws
import Derived.Stop.Joined
import Derived.MakeChecks
import GoSem.Step
import Derived.Laws.RangeAny
import Derived.Lib.OthersKept
import Derived.Outline
import Derived.Laws.EntriesVeiled
import Derived.KernelRfl
import Derived.Test.YtoamkpgaaanafaaGreatG1
import Derived.Test.YtoamkpgaaanafaaGreatG3
import Derived.Test.YtoamkpgaaanafaaGreatG5
import Derived.Test.YtoamkpgaaanafaaGreatG6
import Derived.Test.YtoamkpgaaanafaaGreatG7
import Derived.Test.YtoamkpgaaanafaaGreatG8
namespace Go.Proofs.YtoamkpgaaanafaaGreat
set_option linter.unusedSimpArgs false
set_option linter.unusedVariables false
set_option linter.unnecessarySimpa false
section
open Go.RowKit
theorem sl_eq {n n' k:Nat} {cs cs' : List PV} {o:Option TypeId} (h1:n=n') (h2:cs=cs'):PV.sl n k cs o = .sl n' k cs' o:=by rw [h1,h2]
end
section
open Go.RowKit
variable {P:Program} {M:Nat} {Q:Exit→PS→Prop} {σ:PS} {T:Tab} {ops:Array Oper} {i:Nat} {o:Oper} {rest:List (Nat×Oper)} {K:PS→Prop} {base:Nat} {ok:Nat→Nat→Bool}
theorem pev_only (ok:Nat→Bool) (x:Operand):pev (σ.only ok) x=pev σ x:=by cases x<;>rfl
theorem PWops.valEq {d:Nat} {p q:PV} (hg:pguard ops σ o=some true) (hd:o.dst=some d) (hE:presE T (headB ops o.dst) (base+i) (σ.only (ok i)) o.op=some ⟨p,[],none,[]⟩) (hp:p=q) (hb:σ.freeB (base+i)=true) (k:PWops P T ops base ok rest K (σ.put d q)):PWops P T ops base ok ((i,o) :: rest) K σ:=by
 subst hp
 refine PWops.step hg hE hb ?_
 rw [hd]
 exact k
theorem PWops.bool {d:Nat} {b:Bool} (v:Bool) (hg:pguard ops σ o=some true) (hd:o.dst=some d) (hE:feff (presE T (headB ops o.dst) (base+i) (σ.only (ok i)) o.op)=some (.val (.bool b))) (hv:b=v) (hb:σ.freeB (base+i)=true) (k:PWops P T ops base ok rest K (σ.put d (.val (.bool v)))):PWops P T ops base ok ((i,o) :: rest) K σ:=by
 subst hv
 exact PWops.val hg hd hE hb k
theorem PWops.int {d:Nat} {kk:IntKind} {z:Int} (z' : Int) (hg:pguard ops σ o=some true) (hd:o.dst=some d) (hE:feff (presE T (headB ops o.dst) (base+i) (σ.only (ok i)) o.op)=some (.val (.int kk z))) (hv:z=z') (hb:σ.freeB (base+i)=true) (k:PWops P T ops base ok rest K (σ.put d (.val (.int kk z')))):PWops P T ops base ok ((i,o) :: rest) K σ:=by
 subst hv
 exact PWops.val hg hd hE hb k
theorem wrap64_id {z:Int} (h1 : -9223372036854775808≤z) (h2:z≤9223372036854775807):IntKind.i64.wrap z=z:=IntWalk.i64_in z ⟨h1,h2⟩
theorem PWops.fits {d:Nat} {z:Int} (hg:pguard ops σ o=some true) (hd:o.dst=some d) (hE:feff (presE T (headB ops o.dst) (base+i) (σ.only (ok i)) o.op)=some (.val (.int .i64 (IntKind.i64.wrap z)))) (h1 : -9223372036854775808≤z) (h2:z≤9223372036854775807) (hb:σ.freeB (base+i)=true) (k:PWops P T ops base ok rest K (σ.put d (.val (.int .i64 z)))):PWops P T ops base ok ((i,o) :: rest) K σ:=
 PWops.int z hg hd hE (wrap64_id h1 h2) hb k
def isCmp:Op→Bool
 | .binOp op _ _ _ _=>match op with
  | .eql | .neq | .lss | .leq | .gtr | .geq=>true
  |_=>false
 |_=>false
def isArith:Op→Bool
 | .binOp op _ _ _ _=>match op with
  | .add | .sub | .mul=>true
  |_=>false
 |_=>false
theorem PWops.boolK {d:Nat} {b:Bool} (v:Bool) (hk:isCmp o.op=true) (hg:pguard ops σ o=some true) (hd:o.dst=some d) (hE:feff (presE T (headB ops o.dst) (base+i) (σ.only (ok i)) o.op)=some (.val (.bool b))) (hv:b=v) (hb:σ.freeB (base+i)=true) (k:PWops P T ops base ok rest K (σ.put d (.val (.bool v)))):PWops P T ops base ok ((i,o) :: rest) K σ:=PWops.bool v hg hd hE hv hb k
theorem PWops.fitsK {d:Nat} {z:Int} (hk:isArith o.op=true) (hg:pguard ops σ o=some true) (hd:o.dst=some d) (hE:feff (presE T (headB ops o.dst) (base+i) (σ.only (ok i)) o.op)=some (.val (.int .i64 (IntKind.i64.wrap z)))) (h1 : -9223372036854775808≤z) (h2:z≤9223372036854775807) (hb:σ.freeB (base+i)=true) (k:PWops P T ops base ok rest K (σ.put d (.val (.int .i64 z)))):PWops P T ops base ok ((i,o) :: rest) K σ:=PWops.fits hg hd hE h1 h2 hb k
theorem PWops.idx {d n k j e by_:Nat} {cs zr:List PV} {own:Option TypeId} {kk:IntKind} {x ix:Operand} {t:TypeId} {ti:TyI} (hg:pguard ops σ o=some true) (hd:o.dst=some d) (hop:o.op = .indexAddr t x ix) (hx:pev σ x = .sl n k cs own) (hi:pev σ ix = .val (.int kk (j:Int))) (ht:T.at t=some ti) (hk:ti.kind = .slice e k by_ zr) (hb:σ.freeB (base+i)=true) (hj:j < n)
  (kn:PWops P T ops base ok rest K (σ.put d (.ep cs (j * k)))):PWops P T ops base ok ((i,o) :: rest) K σ:=by
 refine PWops.valEq hg hd (p:=.ep cs (j * k)) ?_ rfl hb kn
 have h1:k=k∧(0:Int)≤(j:Int)∧(j:Int) < (n:Int):=⟨rfl,by omega,by omega⟩
 simp [hop,presE,pvalA,pval,pev_only,hx,hi,ht,hk,pindexAt,h1]
theorem PWops.idx1 {d n j e by_:Nat} {cs zr:List PV} {own:Option TypeId} {kk:IntKind} {x ix:Operand} {t:TypeId} {ti:TyI} (hg:pguard ops σ o=some true) (hd:o.dst=some d) (hop:o.op = .indexAddr t x ix) (hx:pev σ x = .sl n 1 cs own) (hi:pev σ ix = .val (.int kk (j:Int))) (ht:T.at t=some ti) (hk:ti.kind = .slice e 1 by_ zr) (hb:σ.freeB (base+i)=true) (hj:j < n)
  (kn:PWops P T ops base ok rest K (σ.put d (.ep cs j))):PWops P T ops base ok ((i,o) :: rest) K σ:=
 PWops.idx hg hd hop hx hi ht hk hb hj (by rw [Nat.mul_one];exact kn)
theorem PWops.ld {d off:Nat} {cs:List PV} {c q:PV} {x:Operand} {t:TypeId} {ti:TyI} (hg:pguard ops σ o=some true) (hd:o.dst=some d) (hop:o.op = .load t x) (hx:pev σ x = .ep cs off) (ht:T.at t=some ti) (ha:ti.agg=false) (hb:σ.freeB (base+i)=true) (hc:cs[off]? = some c) (hq:fval c.bare=some q)
  (kn:PWops P T ops base ok rest K (σ.put d q)):PWops P T ops base ok ((i,o) :: rest) K σ:=by
 refine PWops.valEq hg hd (p:=c.bare) ?_ (fval_eq hq) hb kn
 simp [hop,presE,ploadO,pvalA,pval,pev_only,hx,ht,ploadAt,asVal,ha,hc]
theorem PWops.ldA {d off m:Nat} {cs row:List PV} {x:Operand} {t:TypeId} {kd:TD} {zr:List PV} {es:List SK} (hg:pguard ops σ o=some true) (hd:o.dst=some d) (hop:o.op = .load t x) (hx:pev σ x = .ep cs off) (ht:T.at t=some ⟨m,true,kd,zr,es⟩) (hb:σ.freeB (base+i)=true) (hl:off+m≤cs.length) (hr:((cs.drop off).take m).map PV.bare=row)
  (kn:PWops P T ops base ok rest K (σ.put d (.agg row))):PWops P T ops base ok ((i,o) :: rest) K σ:=by
 refine PWops.valEq hg hd (p:=.agg (((cs.drop off).take m).map PV.bare)) ?_ (by rw [hr]) hb kn
 simp [hop,presE,ploadO,pvalA,pval,pev_only,hx,ht,ploadAt,asVal,hl]
theorem PWops.app {d s n m k e by_:Nat} {cs ds zr:List PV} {own:Option TypeId} {x:Operand} {t:TypeId} {sz:Nat} {ag:Bool} {zz:List PV} {es:List SK} (hg:pguard ops σ o=some true) (hd:o.dst=some d) (hop:o.op = .call { callee:=.builtin .append,args := #[.tmp s,x],argTypes := #[t,t] }) (hs:σ.t s = .sl n k cs (some e)) (hx:pev σ x = .sl m k ds own) (ht:T.at t=some ⟨sz,ag, .slice e k by_ zr,zz,es⟩) (hb:σ.freeB (base+i)=true) (he:Nat.blt e 1000000=true)
  (h1:(n+m) * by_≤140737488355328) (h2:n+m≤140737488355328) (hone:ds.all PV.one=true) (kn:PWops P T ops base ok rest K ((σ.put s (.sl n k cs none)).put d (.sl (n+m) k (cs ++ ds) (some e)))):PWops P T ops base ok ((i,o) :: rest) K σ:=by
 refine PWops.step hg (E:=⟨.sl (n+m) k (cs ++ ds) (some e),[],some s,[]⟩) ?_ hb ?_
 ·have how:ownPV (σ.only (ok i)) (.tmp s) = .sl n k cs (some e):=hs
  simp [hop,presE,how,pev_only,hx,ht,pappend,asOwn,asSrc,h1,h2,disOf,fullB,(by simpa [Nat.blt_eq] using he:e < 1000000)]
  simpa using hone
 ·rw [hd]
  simp only [PS.app,hs,List.foldl_nil,List.foldl_cons]
  exact kn
theorem PWops.app0 {d s m k e by_:Nat} {ds zr:List PV} {own:Option TypeId} {x:Operand} {t:TypeId} {sz:Nat} {ag:Bool} {zz:List PV} {es:List SK} (hg:pguard ops σ o=some true) (hd:o.dst=some d) (hop:o.op = .call { callee:=.builtin .append,args := #[.tmp s,x],argTypes := #[t,t] }) (hs:σ.t s = .nilsl) (hx:pev σ x = .sl m k ds own) (ht:T.at t=some ⟨sz,ag, .slice e k by_ zr,zz,es⟩) (hb:σ.freeB (base+i)=true) (he:Nat.blt e 1000000=true)
  (h1:m * by_≤140737488355328) (h2:m≤140737488355328) (hone:ds.all PV.one=true) (kn:PWops P T ops base ok rest K ((σ.put s .nilsl).put d (.sl m k ds (some e)))):PWops P T ops base ok ((i,o) :: rest) K σ:=by
 refine PWops.step hg (E:=⟨.sl (0+m) k ([] ++ ds) (some e),[],some s,[]⟩) ?_ hb ?_
 ·have how:ownPV (σ.only (ok i)) (.tmp s) = .nilsl:=hs
  simp [hop,presE,how,pev_only,hx,ht,pappend,asOwn,asSrc,h1,h2,disOf,fullB,(by simpa [Nat.blt_eq] using he:e < 1000000)]
  simpa using hone
 ·rw [hd]
  simp only [PS.app,hs,Nat.zero_add,List.nil_append,List.foldl_nil,List.foldl_cons]
  exact kn
theorem PWops.slc {d n k e by_:Nat} (l h:Nat) {cs zr:List PV} {own:Option TypeId} {x:Operand} {lo hi:Option Operand} {t:TypeId} {ti:TyI} (hg:pguard ops σ o=some true) (hd:o.dst=some d) (hop:o.op = .slice t x lo hi none) (hx:pev σ x = .sl n k cs own) (ht:T.at t=some ti) (hk:ti.kind = .slice e k by_ zr) (hb:σ.freeB (base+i)=true)
  (h1:pbound n n (hi.map (pev σ))=some h) (h2:pbound 0 h (lo.map (pev σ))=some l) (kn:PWops P T ops base ok rest K (σ.put d (.sl (h - l) k ((cs.drop (l * k)).take ((h - l) * k)) none))):PWops P T ops base ok ((i,o) :: rest) K σ:=by
 refine PWops.valEq hg hd (p:=.sl (h - l) k ((cs.drop (l * k)).take ((h - l) * k)) none) ?_ rfl hb kn
 have e1:pev (σ.only (ok i))=pev σ:=funext (pev_only _)
 simp [hop,presE,pvalA,pval,e1,hx,ht,hk,pslice,h1,h2]
theorem PWops.str {d n k e by_:Nat} {zr:List PV} {own:Option TypeId} {bs:List Int} {x:Operand} {ts td:TypeId} {si di ei:TyI} (hg:pguard ops σ o=some true) (hd:o.dst=some d) (hop:o.op = .convert ts td x) (hx:pev σ x = .sl n 1 (bs.map fun b=>.val (.int .u8 b)) own) (hs:T.at ts=some si) (ht:T.at td=some di) (hk1:si.kind = .slice e k by_ zr) (hk2:di.kind = .str) (he:T.at e=some ei) (hke:ei.kind = .int .u8) (hb:σ.freeB (base+i)=true)
  (kn:PWops P T ops base ok rest K (σ.put d (.val (.string (strI bs))))):PWops P T ops base ok ((i,o) :: rest) K σ:=by
 refine PWops.valEq hg hd (p:=.val (.string (strI bs))) ?_ rfl hb kn
 simp [hop,presE,pvalA,pval,pev_only,hx,hs,ht,hk1,hk2,he,hke,pconv,pconvS,bytesOf_map]
theorem low_val (v:Value):Low (.val v)↔True:=⟨fun _=>trivial,fun _=>.val v⟩
theorem low_nilsl:Low .nilsl↔True:=⟨fun _=>trivial,fun _=>.nilsl⟩
theorem low_sl {n k:Nat} {cs:List PV} {own:Option TypeId} : Low (.sl n k cs own)↔∀c∈cs,Low c:=⟨fun h=>by cases h;assumption,fun h=>.sl n k cs own h⟩
theorem low_ep {cs:List PV} {off:Nat} : Low (.ep cs off)↔∀c∈cs,Low c:=⟨fun h=>by cases h;assumption,fun h=>.ep cs off h⟩
theorem low_agg {cs:List PV} : Low (.agg cs)↔∀c∈cs,Low c:=⟨fun h=>by cases h;assumption,fun h=>.agg cs h⟩
theorem low_tup {cs:List PV} : Low (.tup cs)↔∀c∈cs,Low c:=⟨fun h=>by cases h;assumption,fun h=>.tup cs h⟩
theorem low_fn {f:FuncId} {cs:List PV} : Low (.fn f cs)↔∀c∈cs,Low c:=⟨fun h=>by cases h;assumption,fun h=>.fn f cs h⟩
theorem low_pint (z:Int):Low (pint z)↔True:=low_val _
theorem low_pstr (z:ByteArray):Low (pstr z)↔True:=low_val _
theorem low_pbool (z:Bool):Low (pbool z)↔True:=low_val _
theorem low_pints (zs:List Int):Low (pints zs)↔True:=⟨fun _=>trivial,fun _=>.sl _ _ _ _ (fun c hc=>by obtain ⟨z,-,rfl⟩:=List.mem_map.1 hc;exact .val _)⟩
theorem low_pstrs (zs:List ByteArray):Low (pstrs zs)↔True:=⟨fun _=>trivial,fun _=>.sl _ _ _ _ (fun c hc=>by obtain ⟨z,-,rfl⟩:=List.mem_map.1 hc;exact .val _)⟩
theorem map_get {α:Type} {f:α→PV} {l:List α} {j:Nat} {x:α} (h:l[j]? = some x):(l.map f)[j]? = some (f x):=by simp [h]
theorem flatMap_get {α:Type} {f:α→List PV} {k:Nat} (hk:∀x,(f x).length=k):∀{l:List α} {j:Nat} {x:α} {m:Nat} {c:PV},l[j]? = some x→(f x)[m]? = some c→(l.flatMap f)[j * k+m]? = some c
 | [],j,x,m,c,h,_=>by simp at h
 |y :: l,0,x,m,c,h,hc=>by
  simp at h;subst h
  have hm:m < (f y).length:=(List.getElem?_eq_some_iff.1 hc).1
  rw [List.flatMap_cons,Nat.zero_mul,Nat.zero_add,List.getElem?_append_left hm];exact hc
 |y :: l,j+1,x,m,c,h,hc=>by
  simp at h
  rw [List.flatMap_cons,List.getElem?_append_right (by rw [hk,Nat.succ_mul];omega),hk,show (j+1) * k+m - k=j * k+m by rw [Nat.succ_mul];omega]
  exact flatMap_get hk h hc
theorem flatMap_len {α:Type} {f:α→List PV} {k:Nat} (hk:∀x,(f x).length=k):∀(l:List α),(l.flatMap f).length=l.length * k
 | []=>by simp
 |y :: l=>by rw [List.flatMap_cons,List.length_append,hk,flatMap_len hk l,List.length_cons,Nat.succ_mul];omega
theorem flatMap_row {α:Type} {f:α→List PV} {k:Nat} (hk:∀x,(f x).length=k):∀{l:List α} {j:Nat} {x:α},l[j]? = some x→((l.flatMap f).drop (j * k)).take k=f x
 | [],j,x,h=>by simp at h
 |y :: l,0,x,h=>by
  simp at h;subst h
  rw [List.flatMap_cons,Nat.zero_mul,List.drop_zero,List.take_append_of_le_length (by rw [hk];exact Nat.le_refl _),List.take_of_length_le (by rw [hk];exact Nat.le_refl _)]
 |y :: l,j+1,x,h=>by
  simp at h
  rw [List.flatMap_cons,show (j+1) * k=(f y).length+j * k by rw [hk,Nat.succ_mul];omega,List.drop_append]
  simp only [Nat.add_sub_cancel_left]
  rw [List.drop_eq_nil_of_le (by omega),List.nil_append]
  exact flatMap_row hk h
end
section
open Go.RowKit
def pbyte (z:Int):PV:=.val (.int .u8 z)
def pbytes (bs:List Int):PV:=.sl bs.length 1 (bs.map pbyte) none
theorem low_mapI {n k:Nat} {l:List Int} {o:Option TypeId} : Low (.sl n k (l.map pint) o):=.sl _ _ _ _ (fun c hc=>by obtain ⟨z,-,rfl⟩:=List.mem_map.1 hc;exact .val _)
theorem low_mapS {n k:Nat} {l:List ByteArray} {o:Option TypeId} : Low (.sl n k (l.map pstr) o):=.sl _ _ _ _ (fun c hc=>by obtain ⟨z,-,rfl⟩:=List.mem_map.1 hc;exact .val _)
theorem low_mapB {n k:Nat} {l:List Int} {o:Option TypeId} : Low (.sl n k (l.map pbyte) o):=.sl _ _ _ _ (fun c hc=>by obtain ⟨z,-,rfl⟩:=List.mem_map.1 hc;exact .val _)
theorem one_pint (l:List Int):(l.map pint).all PV.one=true:=by rw [List.all_map,List.all_eq_true];intro x _;rfl
theorem one_pstr (l:List ByteArray):(l.map pstr).all PV.one=true:=by rw [List.all_map,List.all_eq_true];intro x _;rfl
theorem one_pbyte (l:List Int):(l.map pbyte).all PV.one=true:=by rw [List.all_map,List.all_eq_true];intro x _;rfl
theorem low_pbyte (z:Int):Low (pbyte z)↔True:=low_val _
theorem low_pbytes (zs:List Int):Low (pbytes zs)↔True:=⟨fun _=>trivial,fun _=>.sl _ _ _ _ (fun c hc=>by obtain ⟨z,-,rfl⟩:=List.mem_map.1 hc;exact .val _)⟩
theorem PW.condT {P:Program} {M:Nat} {Q:Exit→PS→Prop} {σ:PS} {c:Operand} {x y:Code} (hc:pev σ c = .val (.bool true)) (h:PW P M x Q σ):PW P M (.cond c x y) Q σ:=PW.cond hc (fun _=>h) (fun e=>by cases e)
theorem PW.condF {P:Program} {M:Nat} {Q:Exit→PS→Prop} {σ:PS} {c:Operand} {x y:Code} (hc:pev σ c = .val (.bool false)) (h:PW P M y Q σ):PW P M (.cond c x y) Q σ:=PW.cond hc (fun e=>by cases e) (fun _=>h)
def pbytesO (zs:List Int):PV:=.sl zs.length 1 (zs.map pbyte) (some 5)
end
section
open Go.RowKit
variable {Φ:Imm} {μ:Nat→Option Nat} {w:World} (himm:∀b o u,Φ b o=some u→w.cell? ⟨b,o,none⟩=some u)
include himm
theorem post_flat {w' : World} {post:PV→Prop} {r:PV} {v:Value} (hr:Rep Φ mu0 r v) (hf:r.ownB=false) (hp:post r) (hb:Below w.heap.size w w'):CallPost Φ w post (.returned v) w':=by
 refine ⟨r,v,Φ,rfl,hp,hr,fun b o u e=>below_cell hb (himm b o u e),fun _ _ _=>rfl,hb,fun n k cs E e=>?_⟩
 rw [e] at hf;simp [PV.ownB] at hf
theorem own_rep {w' : World} {E:TypeId} {v:Value} {α:Type} {f:α→Value} {l:List α} (hplain:∀x,plainV (f x)=true) (ho:Own w.heap.size E w' v (l.map f)) (hb:Below w.heap.size w w') (hE:E < 1000000:=by decide) :
  ∃Φ' : Imm,(∀b o u,Φ' b o=some u→w'.cell? ⟨b,o,none⟩=some u)∧(∀b o,b < w.heap.size→Φ' b o=Φ b o)∧Rep Φ' mu0 (.sl l.length 1 (l.map fun x=>.val (f x)) (some E)) v∧OwnAt (fun g=>w.heap.size≤g) Φ' (fun _=>some (.tmp 0)) w' (.tmp 0) l.length 1 E v:=by
 have himm' : ∀b o u,Φ b o=some u→w'.cell? ⟨b,o,none⟩=some u:=fun b o u e=>below_cell hb (himm b o u e)
 have hfr:∀b o u,Φ b o=some u→b < w.heap.size:=fun b o u e=>World.block_lt_of_cell? _ _ (himm b o u e)
 rcases ho.2 with ⟨rfl,hn⟩|⟨g,cap,cur,rfl,hBg,hgg,hc,hm,hs,ht⟩
 ·have hl:l = []:=List.eq_nil_of_length_eq_zero (by simpa using hn)
  subst hl
  exact ⟨Φ,himm',fun _ _ _=>rfl, .sl0 _ _ _ _ (by unfold maxLen;omega), .inl ⟨rfl,rfl⟩⟩
 ·simp only [List.length_map,Nat.mul_one] at hc ht hs
  refine ⟨fun b o=>if b=g then (l.map f)[o]? else Φ b o,?_,?_,?_,?_⟩
  ·intro b o u e
   by_cases hbg:b=g
   ·subst hbg
    simp only [if_true] at e
    rw [←ht,List.getElem?_take] at e
    split at e
    ·simp only [World.cell?,hgg];simpa using e
    ·cases e
   ·simp only [if_neg hbg] at e;exact himm' b o u e
  ·intro b o hbo;simp only;rw [if_neg (by omega)]
  ·have hlen:(Value.slice (some ⟨g,0,none⟩) (l.map f).length cap) = .slice (some ⟨g,0,none⟩) l.length cap:=by simp
   rw [hlen]
   refine .sl _ _ _ _ g 0 cap (fun j=>((l.map f)[j]?).getD undef) (by simp) hc hm (fun j hj=>?_) (fun j c hcj=>?_)
   ·have hj' : j < l.length:=by simpa using hj
    simp [hj']
   ·rw [List.getElem?_map] at hcj
    obtain ⟨x,hx,rfl⟩:=Option.map_eq_some_iff.1 hcj
    simp only [List.getElem?_map,hx,Option.map_some,Option.getD_some]
    exact .val _ (hplain x)
  ·refine .inr (.inl ⟨g,cap,cur,by simp,hBg,hgg,hc,hm,by simpa using hs,rfl,hE,fun j hj=>?_⟩)
   simp only [if_true]
   rw [List.getElem?_eq_none (by simp;omega)]
theorem post_own {w' : World} {E:TypeId} {v:Value} {α:Type} {f:α→Value} {l:List α} (hplain:∀x,plainV (f x)=true) (ho:Own w.heap.size E w' v (l.map f)) (hb:Below w.heap.size w w') (hE:E < 1000000:=by decide):CallPost Φ w (· = .sl l.length 1 (l.map fun x=>.val (f x)) (some E)) (.returned v) w':=by
 obtain ⟨Φ',h1,h2,h3,h4⟩:=own_rep himm hplain ho hb hE
 refine ⟨_,v,Φ',rfl,rfl,h3,h1,h2,hb,fun n k cs E' e=>?_⟩
 cases e
 exact h4
end
section
open Go.RowKit
theorem pcalls1 {P:Program} {f:FuncId} {p:PV} {post:PV→Prop} (hc:callB P f=true) (h:∀(Φ:Imm) (μ:Nat→Option Nat) (w:World) (v:Value),(∀b o u,Φ b o=some u→w.cell? ⟨b,o,none⟩=some u)→Rep Φ μ p v→Calls P f #[v] w (CallPost Φ w post)):PCalls P f [p] post:=by
 refine ⟨hc,fun Φ μ w vs himm hgl hr=>?_⟩
 match vs,hr with
 | [v],hr=>exact h Φ μ w v himm (hr.2 0 _ _ rfl rfl)
 | [],hr=>exact absurd hr.1 (by simp)
 |_ :: _ :: _,hr=>exact absurd hr.1 (by simp)
end
section
open Go.ChangeShapes Go.WideShapes Go.ChangeAt Go.RowKit
def immW (W:World):Imm:=fun b o=>W.cell? ⟨b,o,none⟩
theorem RepL.append {Φ:Imm} {μ:Nat→Option Nat} {cs ds:List PV} {us vs:List Value} (h:RepL Φ μ cs us) (k:RepL Φ μ ds vs):RepL Φ μ (cs ++ ds) (us ++ vs):=by
 refine ⟨by simp [h.1,k.1],fun j c u h1 h2=>?_⟩
 by_cases hj:j < cs.length
 ·rw [List.getElem?_append_left hj] at h1
  rw [List.getElem?_append_left (by rw [h.1];exact hj)] at h2
  exact h.2 j c u h1 h2
 ·rw [List.getElem?_append_right (by omega)] at h1
  rw [List.getElem?_append_right (by rw [h.1];omega),h.1] at h2
  exact k.2 _ c u h1 h2
def Opens (P:Program) (t:TypeId) {α:Type} (en:α→List PV) (ok:α→Prop):Prop:=
 ∀(H:Type) (enc:TypeId×Value→H) (W:World) (fuel:Nat) (cs:List Value) (d:DataW H) (pl:List MemPlace),
  DataW.trod enc P W 0 (fun _=>true) true fuel t cs=some (d,pl)→(∀n∈d.weights P t,n≤reachBytes)→∃y:α,ok y∧RepL (immW W) mu0 (en y) cs
end
section
open Go.ChangeShapes Go.WideShapes Go.ChangeAt Go.RowKit
variable {P:Program} {t e:TypeId}
theorem Opens.map {α β:Type} {en:α→List PV} {ok:α→Prop} (h:Opens P t en ok) (g:α→β) {en' : β→List PV} {ok' : β→Prop} (hen:∀a,ok a→en' (g a)=en a) (hok:∀a,ok a→ok' (g a)):Opens P t en' ok':=by
 intro H enc W fuel cs d pl h1 h2
 obtain ⟨y,k1,k2⟩:=h H enc W fuel cs d pl h1 h2
 exact ⟨g y,hok y k1,by rw [hen y k1];exact k2⟩
theorem opens_int {k:IntKind} (ht:P.underlying t=some (.int k)):Opens P t (fun z:Int => [.val (.int k z)]) (fun z=>(Lit.int k z).wf=true):=by
 intro H enc W fuel cs d pl h hw
 obtain ⟨n,rfl,hx,hwf⟩:=DataW.trod_int ht h
 exact ⟨n,hwf,RepL.cons (.val _ rfl) RepL.nil⟩
theorem opens_str (ht:P.underlying t=some .string):Opens P t (fun b:ByteArray => [.val (.string b)]) (fun b=>b.size≤reachBytes):=by
 intro H enc W fuel cs d pl h hw
 obtain ⟨s,rfl,hx,hs⟩:=DataW.trod_string ht h
 refine ⟨s,?_,RepL.cons (.val _ rfl) RepL.nil⟩
 cases hx
 have:=hw s.data.toList.length (by simp [DataW.weights])
 simpa using this
theorem weights_mem {H:Type} {e:TypeId} : ∀{l:List (DataW H)} {d:DataW H},d∈l→∀n∈d.weights P e,n∈DataW.weightsAll P e l
 |x :: l,d,h,n,hn=>by
  rw [DataW.weightsAll,List.mem_append]
  rcases List.mem_cons.1 h with rfl|h
  ·exact .inl hn
  ·exact .inr (weights_mem h n hn)
theorem open_elems {α:Type} {en:α→List PV} {ok:α→Prop} {k b:Nat} (ht:P.underlying t=some (.slice e)) (hc:P.cellsOf e=k) (hk:0 < k) (hb:P.bytesOf e=b) (hlen:∀x,ok x→(en x).length=k)
  {H:Type} {enc:TypeId×Value→H} {W:World} {fuel:Nat} {cs:List Value} {d:DataW H} {pl:List MemPlace} (he:∀(n:Nat) (us:List Value) (D:DataW H) (Pl:List MemPlace),(∃l r,d = .slice l r∧D∈l)→DataW.trod enc P W 0 (fun _=>true) true n e us=some (D,Pl)→(∀x∈D.weights P e,x≤reachBytes)→∃y:α,ok y∧RepL (immW W) mu0 (en y) us)
  (h:DataW.trod enc P W 0 (fun _=>true) true fuel t cs=some (d,pl)) (hw:∀n∈d.weights P t,n≤reachBytes):∃xs:List α,((∀x∈xs,ok x)∧xs.length * b≤reachBytes)∧RepL (immW W) mu0 [.sl xs.length k (xs.flatMap en) none] cs:=by
 rcases Deep.open_slice ht h with ⟨rfl,hx⟩|⟨a,len,cap,m,n,D,Pl,rfl,-,hl,hm,hmm,hx,hel⟩
 ·exact ⟨[],⟨by simp,by simp⟩,RepL.cons (.sl0 _ _ _ _ (by unfold maxLen;omega)) RepL.nil⟩
 ·simp only [if_true] at hmm
  subst hmm
  cases hx
  have hall:∀i,i < len→∃y:α,ok y∧∃us,W.cells? 0 (a.add (i * P.cellsOf e)) (P.cellsOf e)=some us∧RepL (immW W) mu0 (en y) us:=by
   intro i hi
   obtain ⟨us,h1,h2⟩:=hel i (by omega)
   obtain ⟨y,k1,k2⟩:=he n us (D i) (Pl i) ⟨_,_,rfl,List.mem_map.2 ⟨i,by simpa using hi,rfl⟩⟩ h2 (fun x hx=>by
    refine hw x ?_
    simp only [DataW.weights,ht,List.mem_cons,List.mem_append]
    exact .inr (.inl (weights_mem (List.mem_map.2 ⟨i,by simpa using hi,rfl⟩) x hx)))
   exact ⟨y,k1,us,h1,k2⟩
  have:∃xs:List α,xs.length=len∧∀i x,xs[i]? = some x→ok x∧∃us,W.cells? 0 (a.add (i * P.cellsOf e)) (P.cellsOf e)=some us∧RepL (immW W) mu0 (en x) us:=by
   have key:∀j,j≤len→∃xs:List α,xs.length=j∧∀i x,xs[i]? = some x→ok x∧∃us,W.cells? 0 (a.add (i * P.cellsOf e)) (P.cellsOf e)=some us∧RepL (immW W) mu0 (en x) us:=by
    intro j
    induction j with
    |zero=>exact fun _=>⟨[],rfl,fun i x hx=>by simp at hx⟩
    |succ j ih=>
     intro hj
     obtain ⟨xs,h1,h2⟩:=ih (by omega)
     obtain ⟨y,k1,k2⟩:=hall j (by omega)
     refine ⟨xs ++ [y],by simp [h1],fun i x hx=>?_⟩
     by_cases hi:i < j
     ·rw [List.getElem?_append_left (by omega)] at hx;exact h2 i x hx
     ·rw [List.getElem?_append_right (by omega)] at hx
      have h0:i - xs.length=0:=by
       have:=(List.getElem?_eq_some_iff.1 hx).1
       simp at this;omega
      rw [h0] at hx;simp at hx;subst hx
      obtain rfl:i=j:=by omega
      exact ⟨k1,k2⟩
   exact key len (Nat.le_refl _)
  obtain ⟨xs,hxl,hxs⟩:=this
  refine ⟨xs,⟨fun x hx=>?_,?_⟩,RepL.cons ?_ RepL.nil⟩
  ·obtain ⟨i,hi⟩:=List.getElem?_of_mem hx
   exact (hxs i x hi).1
  ·have hw1:=hw (((List.range len).map D).length * P.bytesOf e+((List.range (m - len)).map fun j=>D (len+j)).length * P.bytesOf e) (by
    simp only [DataW.weights,ht,List.mem_cons,List.mem_append,Nat.add_mul]
    exact .inl trivial)
   simp only [List.length_map,List.length_range,hb] at hw1
   rw [hxl];omega
  ·by_cases h0:len=0
   ·subst h0
    obtain rfl:xs = []:=List.eq_nil_of_length_eq_zero hxl
    exact .sl0 _ _ _ _ hm
   ·obtain ⟨bl,off,spot⟩:=a
    have hfl:(xs.flatMap en).length=len * k:=by
     rw [←hxl]
     have:∀(l:List α),(∀x∈l,(en x).length=k)→(l.flatMap en).length=l.length * k:=by
      intro l
      induction l with
      |nil=>simp
      |cons x l ih=>intro h;rw [List.flatMap_cons,List.length_append,h x (by simp),ih (fun y hy=>h y (by simp [hy])),List.length_cons,Nat.succ_mul];omega
     exact this xs (fun x hx=>by
      obtain ⟨i,hi⟩:=List.getElem?_of_mem hx
      exact hlen x (hxs i x hi).1)
    have hcell:∀i r,i < len→r < k→∃x u,xs[i]? = some x∧W.cell? (Addr.add (Addr.add ⟨bl,off,spot⟩ (i * k)) r)=some u∧∀c,(en x)[r]? = some c→Rep (immW W) mu0 c u:=by
     intro i r hi hr
     have hix:i < xs.length:=by omega
     obtain ⟨k1,us,k2,k3⟩:=hxs i xs[i] (by simp [hix])
     obtain ⟨-,q2,q3⟩:=World.cells?_some k2
     rw [hc] at q2 q3
     have hru:r < us.length:=by omega
     refine ⟨xs[i],us[r],by simp [hix],by rw [q3 r hr];simp [hru],fun c hcc=>k3.2 r c _ hcc (by simp [hru])⟩
    have hspot:spot=none:=by
     obtain ⟨x,u,-,h2,-⟩:=hcell 0 0 (by omega) hk
     have:=World.cell?_spot h2
     simpa [Addr.add] using this
    subst hspot
    rw [←hxl]
    refine .sl xs.length k _ none bl off m (fun j=>(W.cell? ⟨bl,off+j,none⟩).getD undef) (by rw [hfl,hxl]) (by omega) hm (fun j hj=>?_) (fun j c hj=>?_)
    ·rw [hfl] at hj
     have hq:j / k < len:=by rw [Nat.div_lt_iff_lt_mul hk];exact hj
     obtain ⟨x,u,-,h2,-⟩:=hcell (j / k) (j % k) hq (Nat.mod_lt _ hk)
     rw [Addr.add_lit,Addr.add_lit,Nat.add_assoc,Nat.mul_comm,Nat.div_add_mod] at h2
     simp only [immW,h2,Option.getD_some]
    ·have hjl:=(List.getElem?_eq_some_iff.1 hj).1
     rw [hfl] at hjl
     have hq:j / k < len:=by rw [Nat.div_lt_iff_lt_mul hk];exact hjl
     obtain ⟨x,u,h1,h2,h3⟩:=hcell (j / k) (j % k) hq (Nat.mod_lt _ hk)
     rw [Addr.add_lit,Addr.add_lit,Nat.add_assoc,Nat.mul_comm,Nat.div_add_mod] at h2
     rw [h2,Option.getD_some]
     refine h3 c ?_
     have hxk:∀x∈xs,(en x).length=k:=fun x hx=>by
      obtain ⟨i,hi⟩:=List.getElem?_of_mem hx
      exact hlen x (hxs i x hi).1
     have gen:∀(l:List α) (i r:Nat) (x:α),(∀x∈l,(en x).length=k)→l[i]? = some x→r < k→(l.flatMap en)[i * k+r]? = (en x)[r]?:=by
      intro l
      induction l with
      |nil=>intro i r x _ h;simp at h
      |cons y l ih=>
       intro i r x hl h hr
       rw [List.flatMap_cons]
       cases i with
       |zero=>
        simp at h;subst h
        rw [Nat.zero_mul,Nat.zero_add,List.getElem?_append_left (by rw [hl y (by simp)];exact hr)]
       |succ i=>
        simp at h
        have:=ih i r x (fun z hz=>hl z (by simp [hz])) h hr
        rw [List.getElem?_append_right (by rw [hl y (by simp),Nat.succ_mul];omega),hl y (by simp),←this]
        congr 1
        rw [Nat.succ_mul];omega
     rw [←gen xs (j / k) (j % k) x hxk h1 (Nat.mod_lt _ hk),Nat.mul_comm,Nat.div_add_mod]
     exact hj
theorem opens_slice {α:Type} {en:α→List PV} {ok:α→Prop} {k b:Nat} (ht:P.underlying t=some (.slice e)) (hc:P.cellsOf e=k) (hk:0 < k) (hb:P.bytesOf e=b) (he:Opens P e en ok) (hlen:∀x,ok x→(en x).length=k) :
  Opens P t (fun xs:List α => [.sl xs.length k (xs.flatMap en) none]) (fun xs=>(∀x∈xs,ok x)∧xs.length * b≤reachBytes):=
 fun H enc W _ _ _ _ h hw=>open_elems ht hc hk hb hlen (fun n us D Pl _ h1 h2=>he H enc W n us D Pl h1 h2) h hw
def OpensFs (P:Program) (fs:List Field) (o m:Nat) {α:Type} (en:α→List PV) (ok:α→Prop):Prop:=
 ∀(H:Type) (enc:TypeId×Value→H) (W:World) (n:Nat) (cs:List Value) (xs:List (DataW H×List MemPlace)),xs.length=fs.length→(∀(i:Nat) (f:Field),fs[i]? = some f→DataW.trod enc P W 0 (fun _=>true) true n f.type ((cs.drop f.offset).take (P.cellsOf f.type))=xs[i]?) →
  (∀k∈DataW.weightsEach P (fs.map (·.type)) (xs.map (·.1)),k≤reachBytes)→∃y:α,ok y∧RepL (immW W) mu0 (en y) ((cs.drop o).take m)
theorem opensFs_nil {o:Nat} : OpensFs P [] o 0 (fun _:Unit => []) (fun _=>True):=by
 intro H enc W n cs xs _ _ _
 exact ⟨(),trivial,by simpa using RepL.nil⟩
theorem opensFs_cons {f:Field} {fs:List Field} {o k m:Nat} {α β:Type} {en1:α→List PV} {ok1:α→Prop} {en2:β→List PV} {ok2:β→Prop} (ho:f.offset=o) (hk:P.cellsOf f.type=k) (h1:Opens P f.type en1 ok1) (h2:OpensFs P fs (o+k) m en2 ok2) :
  OpensFs P (f :: fs) o (k+m) (fun p:α×β=>en1 p.1 ++ en2 p.2) (fun p=>ok1 p.1∧ok2 p.2):=by
 intro H enc W n cs xs hl hx hw
 cases xs with
 |nil=>simp at hl
 |cons x xs=>
  have e0:=hx 0 f rfl
  rw [ho,hk] at e0
  obtain ⟨y,k1,k2⟩:=h1 H enc W n _ x.1 x.2 e0 (fun z hz=>hw z (by simp only [List.map_cons,DataW.weightsEach,List.mem_append];exact .inl hz))
  obtain ⟨z,k3,k4⟩:=h2 H enc W n cs xs (by simpa using hl) (fun i g hg=>by have:=hx (i+1) g (by simpa using hg);simpa using this) (fun z hz=>hw z (by simp only [List.map_cons,DataW.weightsEach,List.mem_append];exact .inr hz))
  refine ⟨(y,z),⟨k1,k3⟩,?_⟩
  rw [List.take_add,List.drop_drop]
  exact k2.append k4
theorem opensFs_1 {f:Field} {fs:List Field} {o m:Nat} {α β:Type} {en1:α→List PV} {ok1:α→Prop} {en2:β→List PV} {ok2:β→Prop} (ho:f.offset=o) (h1:Opens P f.type en1 ok1) (hk:P.cellsOf f.type=1) (h2:OpensFs P fs (o+1) m en2 ok2) :
  OpensFs P (f :: fs) o (m+1) (fun p:α×β=>en1 p.1 ++ en2 p.2) (fun p=>ok1 p.1∧ok2 p.2):=by
 rw [Nat.add_comm m 1];exact opensFs_cons ho hk h1 h2
theorem opens_struct {fs:Array Field} {m:Nat} {α:Type} {en:α→List PV} {ok:α→Prop} (ht:P.underlying t=some (.struct fs)) (hf:OpensFs P fs.toList 0 m en ok) (hc:P.cellsOf t=m):Opens P t en ok:=by
 intro H enc W fuel cs d pl h hw
 obtain ⟨xs,n,rfl,hx,h3,h4,h5⟩:=DataW.trod_struct ht h
 cases hx
 obtain ⟨y,k1,k2⟩:=hf H enc W n cs xs (by simpa using h4) (fun i f hf=>h5 i f (by simpa using hf)) (fun z hz=>hw z (by simpa only [DataW.weights,ht] using hz))
 refine ⟨y,k1,?_⟩
 rwa [List.drop_zero,List.take_of_length_le (by omega)] at k2
def ArgOpens (P:Program) (t:TypeId) {α:Type} (pe:α→PV) (ok:α→Prop):Prop:=
 ∀(H:Type) (enc:TypeId×Value→H) (W:World) (base:Nat) (v:Value) (d:DataW H) (pl:List MemPlace),Value.okWide P W .any base t v→DataW.Trod enc P W 0 (fun _=>true) true t v d pl→(∀n∈d.weights P t,n≤reachBytes)→∃y:α,ok y∧Rep (immW W) mu0 (pe y) v
theorem repL_one1 {Φ:Imm} {μ:Nat→Option Nat} {p:PV} {v:Value} (h:RepL Φ μ [p] [v]):Rep Φ μ p v:=h.2 0 p v rfl rfl
theorem arg_slice {α:Type} {pe:α→PV} {ok:α→Prop} (ht:P.underlying t=some (.slice e)) (h0:Opens P t (fun x => [pe x]) ok):ArgOpens P t pe ok:=by
 intro H enc W base v d pl hv ⟨fuel,h⟩ hw
 obtain ⟨a,l,c,rfl⟩:=okWide_slice ht hv
 obtain ⟨y,k1,k2⟩:=h0 H enc W fuel _ d pl h hw
 exact ⟨y,k1,repL_one1 k2⟩
theorem arg_struct {fs:Array Field} {α:Type} {en:α→List PV} {ok:α→Prop} (ht:P.underlying t=some (.struct fs)) (h0:Opens P t en ok):ArgOpens P t (fun x=>.agg (en x)) ok:=by
 intro H enc W base v d pl hv ⟨fuel,h⟩ hw
 obtain ⟨cs,rfl,-⟩:=okWide_struct ht hv
 obtain ⟨y,k1,k2⟩:=h0 H enc W fuel _ d pl h hw
 refine ⟨y,k1,?_⟩
 have:=k2.agg
 simpa [Value.cells] using this
theorem ArgOpens.map {α β:Type} {pe:α→PV} {ok:α→Prop} (h:ArgOpens P t pe ok) (g:α→β) {pe' : β→PV} {ok' : β→Prop} (hen:∀a,ok a→pe' (g a)=pe a) (hok:∀a,ok a→ok' (g a)):ArgOpens P t pe' ok':=by
 intro H enc W base v d pl h0 h1 h2
 obtain ⟨y,k1,k2⟩:=h H enc W base v d pl h0 h1 h2
 exact ⟨g y,hok y k1,by rw [hen y k1];exact k2⟩
def ArgsOpen (P:Program) (ts:List TypeId) {α:Type} (en:α→List PV) (ok:α→Prop):Prop:=
 ∀(H:Type) (enc:TypeId×Value→H) (W:World) (base:Nat) (vs:List Value) (ds:List (DataW H)) (pl:List MemPlace),(∀(j:Nat) t v,ts[j]? = some t→vs[j]? = some v→Value.okWide P W .any base t v)→DataW.TrodAll enc P W 0 (fun _=>true) true ts vs ds pl →
  (∀n∈DataW.weightsEach P ts ds,n≤reachBytes)→ds.length=ts.length∧∃y:α,ok y∧RepL (immW W) mu0 (en y) vs
theorem argsOpen_nil:ArgsOpen P [] (fun _:Unit => []) (fun _=>True):=by
 intro H enc W base vs ds pl _ h _
 obtain ⟨rfl,rfl,rfl⟩:=trodAll_nil h
 exact ⟨rfl,(),trivial,RepL.nil⟩
theorem argsOpen_cons {ts:List TypeId} {α β:Type} {pe:α→PV} {ok1:α→Prop} {en:β→List PV} {ok2:β→Prop} (h1:ArgOpens P t pe ok1) (h2:ArgsOpen P ts en ok2):ArgsOpen P (t :: ts) (fun p:α×β=>pe p.1 :: en p.2) (fun p=>ok1 p.1∧ok2 p.2):=by
 intro H enc W base vs ds pl hv h hw
 match vs,ds,h with
 |v :: vs,d :: ds,h=>
  obtain ⟨p,q,g1,g2,-⟩:=h
  obtain ⟨y,k1,k2⟩:=h1 H enc W base v d p (hv 0 t v rfl rfl) g1 (fun z hz=>hw z (by simp only [DataW.weightsEach,List.mem_append];exact .inl hz))
  obtain ⟨hl,z,k3,k4⟩:=h2 H enc W base vs ds q (fun j t v e1 e2=>hv (j+1) t v (by simpa using e1) (by simpa using e2)) g2 (fun z hz=>hw z (by simp only [DataW.weightsEach,List.mem_append];exact .inr hz))
  exact ⟨by simp [hl],(y,z),⟨k1,k3⟩,RepL.cons k2 k4⟩
 | [],[],h=>simp [DataW.TrodAll] at h
 | [],_ :: _,h=>simp [DataW.TrodAll] at h
 |_ :: _,[],h=>simp [DataW.TrodAll] at h
end
section
open Go.ChangeShapes Go.WideShapes Go.ChangeAt Go.RowKit
set_option maxRecDepth 100000 in
theorem law_lifted {f:FuncId} {fn:Func} {s:ChangeSpec} {conds:List PathCond} {tb:TypeId} {α:Type} {en:α→List PV} {ok:α→Prop} (os:Os) (started:os.Started) (H:Type) (enc:TypeId×Value→H) (hfn:Tryz.checked.prog.funcs[f]? = some fn) (noInit:Tryz.checked.prog.inits.idxOf? f=none)
  (witness:∃(w:World) (tape:Tape) (i:Input),w.os=os∧(w.forCall tape i).Shaped Tryz.checked.prog∧i.vars = []∧Input.okWide Tryz.checked.prog (w.forCall tape i) .any w.heap.size f i ∧
   s.pre6 enc Tryz.checked.prog fn conds false (w.forCall tape i).memory i.args∧({} : Assume).holds Tryz.checked.prog (lone (Frame.enter Tryz.checked.prog f i.args .normal) [] (w.forCall tape i)))
  (htb:Tryz.prog.underlying tb=some .bool) (hres:fn.resultTypes = #[tb]) (hvars:s.vars = []) (hread:fn.params.toList.all (fun t=>Tryz.prog.readableRec t && decide (t < Tryz.prog.types.size))=true)
  (hspec:∀ds:List (DataW H),ds.length=fn.params.size→(s.fn H (ds ++ [])).results = [.lit (.bool true)]∧(s.fn H (ds ++ [])).args=ds∧(s.fn H (ds ++ [])).vars = [])
  (hargs:ArgsOpen Tryz.prog fn.params.toList en ok) (hc:∀y,ok y→PCalls Tryz.prog f (en y) (· = pbool true)) (hgt:globTab = []:=by rfl) :
  ReturnsInHanded {} Tryz.checked os f .any (s.pre6 enc Tryz.prog fn conds false) (s.post enc Tryz.prog fn false true false false):=by
 refine returnsInHanded_of_change_sized (C:=Tryz.checked) own started noInit hfn witness ?_
 intro W base args ds gs before hval0 hW _ hsz _
 have hval:∀(j:Nat) t v,fn.params[j]? = some t→args[j]? = some v→Value.okWide Tryz.prog W .any base t v:=hval0
 have hW':=hW
 obtain ⟨p,q,hA,hV,rfl,_,_⟩:=hW
 rw [hvars] at hV
 obtain ⟨rfl,rfl⟩:=trodVars_none hV
 have hvt:s.plain.varTypes Tryz.prog = []:=by simp [ChangeSpec.plain,DataSpec.varTypes,hvars]
 rw [show s.plain.varTypes Tryz.checked.prog = [] from hvt,List.append_nil,List.append_nil,List.all_eq_true] at hsz
 obtain ⟨hl,y,hy,hr⟩:=hargs H enc W base args.toList ds p (fun j t v h1 h2=>hval j t v (by simpa using h1) (by simpa using h2)) hA (fun n hn=>of_decide_eq_true (hsz n hn))
 obtain ⟨s1,s2,s3⟩:=hspec ds (by simpa using hl)
 have hcall:=(hc y hy).2 (immW W) mu0 W args.toList (fun b o u h=>h) (fun x hx=>by rw [hgt] at hx;cases hx) hr
 rw [Array.toArray_toList] at hcall
 refine hcall.mono ?_
 rintro e W' ⟨r,v,Φ',rfl,rfl,hrep,-,-,hb,-⟩
 obtain ⟨rfl,-⟩:=hrep.val_inv
 exact ⟨_,rfl,post_law laidOut htb hres hvars hread hW' s1 s2 s3 hb⟩
end
section
open Go.RowKit
theorem byteAt (s:ByteArray) (k:Nat) (h:k < s.size):s.data.toList[k]? = some (s[k]'h):=by
 rw [List.getElem?_eq_getElem (by simpa using h)];rfl
def okC (k:Nat) (c:Int):Bool:=lowI c || (!(k == 0) && resI c)
theorem nameGo_step (s:ByteArray) (k:Nat) (h:k < s.size):nameGo (k == 0) (s.data.toList.drop k)=(okC k ((s[k]'h).toNat:Int) && nameGo (k+1 == 0) (s.data.toList.drop (k+1))):=
 nameGo_drop _ _ _ (byteAt s k h)
theorem lit_reserved (w:World):Strs (w.alloc (.cells #[Value.string ⟨#[97,108,108]⟩,Value.string ⟨#[97,110,100]⟩,Value.string ⟨#[104,97,115]⟩,Value.string ⟨#[105,110]⟩,Value.string ⟨#[110,111,116]⟩,Value.string ⟨#[111,114]⟩] 9)) (.slice (some ⟨w.heap.size,0,none⟩) 6 6) reserved:=
 (Own.lit w (reserved.map Value.string) 9 w.heap.size (Nat.le_refl _) (by simp [maxLen,reserved])).rd
set_option maxRecDepth 100000 in
set_option maxHeartbeats 1000000 in
theorem refName (s : ByteArray) (w : World) (hs : s.size ≤ 1000000000) :
    Calls Tryz.prog 144 #[.string s] w (RetB w (nameB s)) := by
  go_enter Tryz.func144, Tryz.ntmps144
  go_wp2
  go_loop [3] (fun i => ∃ k : Nat, k ≤ s.size ∧ i = .int .i64 k ∧ Hid (nameGo true s.data.toList = nameGo (k == 0) (s.data.toList.drop k))) (fun i => s.size - (intOf i).toNat)
  case atStart => exact ⟨0, by omega, rfl, rfl⟩
  case round =>
    obtain ⟨k, hk, rfl, hh⟩ := hrel
    by_cases hlt : k < s.size
    · have H : Hid (_ = _) := nameGo_step s k hlt
      have bad : Hid (okC k ((s[k]'hlt).toNat : Int) = false → nameB s = false) := by
        intro h; rw [nameB, hh.out, H.out, h]; rfl
      have good : Hid (okC k ((s[k]'hlt).toNat : Int) = true → nameGo true s.data.toList = nameGo (k + 1 == 0) (s.data.toList.drop (k+1))) := by
        intro h; rw [hh.out, H.out, h]; rfl
      clear H hh
      have kk : ((k : Int) == 0) = (k == 0) := by rw [Bool.eq_iff_iff]; simp
      have KK := Lib.hid kk
      clear kk
      cases ok : okC k ((s[k]'hlt).toNat : Int) <;> cases K0 : (k == 0) <;> cases T1 : decide ((97 : Int) ≤ ((s[k]'hlt).toNat : Int)) <;> cases T2 : decide (((s[k]'hlt).toNat : Int) ≤ 122) <;> cases T3 : decide ((48 : Int) ≤ ((s[k]'hlt).toNat : Int)) <;>
        cases T4 : decide (((s[k]'hlt).toNat : Int) ≤ 57) <;> cases T5 : (((s[k]'hlt).toNat : Int) == 95)
      all_goals first
        | (exfalso; simp [okC, lowI, resI, K0, T1, T2, T3, T4, T5] at ok; done)
        | (exfalso; simp only [decide_eq_true_eq, decide_eq_false_iff_not, beq_iff_eq, beq_eq_false_iff_ne] at T1 T2 T3 T4 T5; omega)
        | skip
      all_goals
        have KI := KK.out
        rw [K0] at KI
        have OK := Lib.hid ok
        clear ok K0
        go_wp2
        first
          | (go_ret; refine RetB.mk (bad.out OK.out).symm (Below.refl _ _))
          | (go_round
             case rel => exact ⟨k + 1, by omega, by go_num, good.out OK.out⟩
             case measure => simp [intOf]; omega)
    · have HE : Hid (nameGo true s.data.toList = true) := by rw [Hid, hh.out, nameGo_end _ _ _ (by simp; omega)]
      clear hh
      by_cases h1 : 1 ≤ s.size
      · by_cases h2 : s.size ≤ 40
        · have h1' : decide ((1 : Int) ≤ (s.size : Int)) = true := by simp; omega
          have h2' : decide ((s.size : Int) ≤ 40) = true := by simp; omega
          have HN : Hid (nameB s = !hasB reserved s) := by rw [Hid, nameB, HE.out]; simp [h1, h2]
          go_wp2_with (go_at_call 86; refine (refHasS _ reserved s _ (lit_reserved w) (by decide)).mono ?_; rintro e w' ⟨rfl, rfl⟩)
          go_ret
          exact RetB.mk HN.out.symm (below_alloc _ _)
        · have h2' : decide ((s.size : Int) ≤ 40) = false := by simp; omega
          have HN : Hid (nameB s = false) := by rw [Hid, nameB, HE.out]; simp [h2]
          go_wp2
          go_ret
          exact RetB.mk HN.out.symm (Below.refl _ _)
      · have h1' : decide ((1 : Int) ≤ (s.size : Int)) = false := by simp; omega
        have HN : Hid (nameB s = false) := by rw [Hid, nameB, HE.out]; simp [h1]
        go_wp2
        go_ret
        exact RetB.mk HN.out.symm (Below.refl _ _)
theorem below_iter (w:World) (s:ByteArray) (k:Nat):Below w.heap.size w (w.iter s k):=below_alloc _ _
set_option maxRecDepth 100000 in
set_option maxHeartbeats 2000000 in
theorem attrName (s : ByteArray) (w : World) (hs : s.size ≤ 1000000000) :
    Calls Tryz.prog 214 #[.string s] w (RetB w (nameB s)) := by
  go_enter Tryz.func214, Tryz.ntmps214
  go_wp2
  go_loopw [3, 4] (fun _ _ wr => ∃ k : Nat, k ≤ s.size ∧ wr = w.iter s k ∧ Hid (nameGo true s.data.toList = nameGo (k == 0) (s.data.toList.drop k))) (fun _ _ wr => s.size - wr.iterPos w.heap.size)
  case atStart => exact ⟨0, by omega, rfl, rfl⟩
  case round =>
    obtain ⟨k, hk, rfl, hh⟩ := hrel
    by_cases hlt : k < s.size
    · have H : Hid (_ = _) := nameGo_step s k hlt
      have bad : Hid (okC k ((s[k]'hlt).toNat : Int) = false → nameB s = false) := by
        intro h; rw [nameB, hh.out, H.out, h]; rfl
      have good : Hid (okC k ((s[k]'hlt).toNat : Int) = true → nameGo true s.data.toList = nameGo (k + 1 == 0) (s.data.toList.drop (k+1))) := by
        intro h; rw [hh.out, H.out, h]; rfl
      clear H hh
      have kk : ((k : Int) == 0) = (k == 0) := by rw [Bool.eq_iff_iff]; simp
      have KK := Lib.hid kk
      clear kk
      by_cases h128 : (s[k]'hlt).toNat < 128
      · have hnx := fun ty => run_next_ascii (P := Tryz.prog) w s k ty hlt h128
        cases ok : okC k ((s[k]'hlt).toNat : Int) <;> cases K0 : (k == 0) <;> cases T1 : decide (((s[k]'hlt).toNat : Int) < 97) <;> cases T2 : decide (122 < ((s[k]'hlt).toNat : Int)) <;> cases T3 : decide (((s[k]'hlt).toNat : Int) < 48) <;>
          cases T4 : decide (57 < ((s[k]'hlt).toNat : Int)) <;> cases T5 : (((s[k]'hlt).toNat : Int) != 95)
        all_goals first
          | (exfalso; simp only [decide_eq_true_eq, decide_eq_false_iff_not, bne_iff_ne, bne_eq_false_iff_eq] at T1 T2 T3 T4 T5; omega)
          | (exfalso
             simp only [decide_eq_true_eq, decide_eq_false_iff_not, bne_iff_ne, bne_eq_false_iff_eq] at T1 T2 T3 T4 T5
             simp [okC, lowI, resI, K0] at ok
             omega)
          | skip
        all_goals
          have KI := KK.out
          rw [K0] at KI
          have OK := Lib.hid ok
          clear ok K0
          go_wp2
          first
            | (go_ret; refine RetB.mk (bad.out OK.out).symm (below_iter _ _ _))
            | (go_roundw
               case rel => exact ⟨k + 1, by omega, rfl, good.out OK.out⟩
               case measure => simp; omega)
      · have hnx := fun ty => run_next_any (P := Tryz.prog) w s k ty hlt
        have hd := (decode_high s k hlt (by omega)).1
        have OK : Hid (okC k ((s[k]'hlt).toNat : Int) = false) := by
          simp [Hid, okC, lowI, resI]
          have := (s[k]'hlt).toNat_lt
          omega
        generalize Utf8.decode s k = dd at hnx hd
        obtain ⟨r, d⟩ := dd
        simp only at hnx hd
        have T1 : decide ((r : Int) < 97) = false := by simp; omega
        have T2 : decide (122 < (r : Int)) = true := by simp; omega
        have T3 : decide ((r : Int) < 48) = false := by simp; omega
        have T4 : decide (57 < (r : Int)) = true := by simp; omega
        have T5 : ((r : Int) != 95) = true := by simp; omega
        cases K0 : (k == 0)
        all_goals
          have KI := KK.out
          rw [K0] at KI
          clear K0
          go_wp2
          go_ret
          exact RetB.mk (bad.out OK.out).symm (below_iter _ _ _)
    · have HE : Hid (nameGo true s.data.toList = true) := by rw [Hid, hh.out, nameGo_end _ _ _ (by simp; omega)]
      have hnx := fun ty => run_next_end (P := Tryz.prog) w s k ty hlt
      clear hh
      by_cases h1 : 1 ≤ s.size
      · by_cases h2 : s.size ≤ 40
        · have h1' : decide ((1 : Int) ≤ (s.size : Int)) = true := by simp; omega
          have h2' : decide ((s.size : Int) ≤ 40) = true := by simp; omega
          have HN : Hid (nameB s = !hasB reserved s) := by rw [Hid, nameB, HE.out]; simp [h1, h2]
          go_wp2_with (go_at_call 73; refine (slicesContainsS _ reserved s _ (lit_reserved (w.iter s k)) (by decide)).mono ?_; rintro e w' ⟨rfl, rfl⟩)
          go_ret
          exact RetB.mk HN.out.symm ((below_iter w s k).trans ((below_alloc _ _).mono (below_iter w s k).size))
        · have h2' : decide ((s.size : Int) ≤ 40) = false := by simp; omega
          have HN : Hid (nameB s = false) := by rw [Hid, nameB, HE.out]; simp [h2]
          go_wp2
          go_ret
          exact RetB.mk HN.out.symm (below_iter _ _ _)
      · have h1' : decide ((1 : Int) ≤ (s.size : Int)) = false := by simp; omega
        have HN : Hid (nameB s = false) := by rw [Hid, nameB, HE.out]; simp [h1]
        go_wp2
        go_ret
        exact RetB.mk HN.out.symm (below_iter _ _ _)
def SmallD (d:PDef):Prop:=d.name.size≤1000∧d.words.length≤1000∧∀s∈d.words,s.size≤1000
theorem def1 (g:Nat) (d:PDef) (wv:Value) (w:World) (hd:DefAt w g 0 d wv) (hs:d.name.size≤1000):Calls Tryz.prog 213 #[.pointer (some ⟨g,0,none⟩)] w (RetB w (!nameB d.name)):=by
 obtain ⟨c0,c1,c2,c3,c4⟩:=hd
 go_enter Tryz.func213,Tryz.ntmps213
 go_wp2_with (go_at_call 214;refine (attrName _ _ (by omega)).mono ?_;rintro e w' ⟨rfl,hb⟩)
 go_ret
 exact RetB.mk rfl hb
theorem def2 (g h:Nat) (d:PDef) (wv:Value) (bf:ByteArray) (w:World) (hd:DefAt w g 0 d wv) (c5:w.cell? ⟨h,0,none⟩=some (.string bf)) :
  Calls Tryz.prog 215 #[.pointer (some ⟨g,0,none⟩), .pointer (some ⟨h,0,none⟩)] w (RetB w (leqB d.name bf)):=by
 obtain ⟨c0,c1,c2,c3,c4⟩:=hd
 go_enter Tryz.func215,Tryz.ntmps215
 go_wp2
 go_ret
 exact RetB.mk rfl (Below.refl _ _)
def kindBad (d:PDef):Bool:=d.kind != 1 && d.kind != 2
theorem def3 (g:Nat) (d:PDef) (wv:Value) (w:World) (hd:DefAt w g 0 d wv):Calls Tryz.prog 216 #[.pointer (some ⟨g,0,none⟩)] w (RetB w (kindBad d)):=by
 obtain ⟨c0,c1,c2,c3,c4⟩:=hd
 cases e:d.kind != 1
 all_goals
  go_enter Tryz.func216,Tryz.ntmps216
  go_wp2
  go_ret
  exact RetB.mk (by simp [kindBad,e]) (Below.refl _ _)
def rangeBad (d:PDef):Bool:=decide (d.lo < -1099511627776) || (decide (1099511627776 < d.hi) || decide (d.hi < d.lo))
theorem def4 (g:Nat) (d:PDef) (wv:Value) (w:World) (hd:DefAt w g 0 d wv):Calls Tryz.prog 217 #[.pointer (some ⟨g,0,none⟩)] w (RetB w (rangeBad d)):=by
 obtain ⟨c0,c1,c2,c3,c4⟩:=hd
 cases e:decide (d.lo < -1099511627776)<;>cases e2:decide (1099511627776 < d.hi)
 all_goals
  go_enter Tryz.func217,Tryz.ntmps217
  go_wp2
  go_ret
  exact RetB.mk (by simp [rangeBad,e,e2]) (Below.refl _ _)
theorem def5 (g:Nat) (d:PDef) (wv:Value) (w:World) (hd:DefAt w g 0 d wv) (hs:Strs w wv d.words) (hl:d.words.length≤1000):Calls Tryz.prog 218 #[.pointer (some ⟨g,0,none⟩)] w (RetB w (decide (0 < d.words.length))):=by
 obtain ⟨c0,c1,c2,c3,c4⟩:=hd
 obtain ⟨a,cap,b,off,rfl,-⟩:=hs.open
 go_enter Tryz.func218,Tryz.ntmps218
 go_wp2
 go_ret
 exact RetB.mk (by first|rfl|simp) (Below.refl _ _)
def formBad (d:PDef):Bool:=d.lo != 0 || d.hi != 0
theorem def6 (g:Nat) (d:PDef) (wv:Value) (w:World) (hd:DefAt w g 0 d wv):Calls Tryz.prog 219 #[.pointer (some ⟨g,0,none⟩)] w (RetB w (formBad d)):=by
 obtain ⟨c0,c1,c2,c3,c4⟩:=hd
 cases e:d.lo != 0
 all_goals
  go_enter Tryz.func219,Tryz.ntmps219
  go_wp2
  go_ret
  exact RetB.mk (by simp [formBad,e]) (Below.refl _ _)
def manyBad (d:PDef):Bool:=decide (d.words.length < 1) || decide (50 < d.words.length)
theorem def7 (g:Nat) (d:PDef) (wv:Value) (w:World) (hd:DefAt w g 0 d wv) (hs:Strs w wv d.words) (hl:d.words.length≤1000):Calls Tryz.prog 220 #[.pointer (some ⟨g,0,none⟩)] w (RetB w (manyBad d)):=by
 obtain ⟨c0,c1,c2,c3,c4⟩:=hd
 obtain ⟨a,cap,b,off,rfl,-⟩:=hs.open
 cases e:decide (d.words.length < 1)<;>cases e2:decide (50 < d.words.length)
 all_goals
  have e' : decide ((d.words.length:Int) < 1)=decide (d.words.length < 1):=by rw [Bool.eq_iff_iff];simp only [decide_eq_true_eq];omega
  have e2' : decide ((50:Int) < (d.words.length:Int))=decide (50 < d.words.length):=by rw [Bool.eq_iff_iff];simp only [decide_eq_true_eq];omega
  rw [e] at e'
  rw [e2] at e2'
  have E:=Lib.hid e
  have E2:=Lib.hid e2
  clear e e2
  go_enter Tryz.func220,Tryz.ntmps220
  go_wp2
  go_ret
  exact RetB.mk (by simp only [manyBad,E.out,E2.out];first|rfl|simp_all) (Below.refl _ _)
theorem callD81:CallOk 222:=fun _ _=>by kernel_rfl
theorem def81 (s:ByteArray) (w:World) (hs:s.size≤1000):Calls Tryz.prog 222 #[.string s] w (RetB w (!nameB s)):=by
 go_enter Tryz.func222,Tryz.ntmps222
 go_wp2_with (go_at_call 214;refine (attrName _ _ (by omega)).mono ?_;rintro e w' ⟨rfl,hb⟩)
 go_ret
 exact RetB.mk rfl hb
theorem def8 (g:Nat) (d:PDef) (wv:Value) (w:World) (hd:DefAt w g 0 d wv) (hs:Strs w wv d.words) (hl:d.words.length≤1000) (hsm:Hid (∀s∈d.words,s.size≤1000)) :
  Calls Tryz.prog 221 #[.pointer (some ⟨g,0,none⟩)] w (RetB w (d.words.any fun s => !nameB s)):=by
 obtain ⟨c0,c1,c2,c3,c4⟩:=hd
 go_enter Tryz.func221,Tryz.ntmps221
 go_wp2_with (go_at_call 104;refine (containsStr _ d.words _ (fun s => !nameB s) _ hs (by omega) callD81 (fun x hx w' _=>def81 x w' (hsm.out x hx))).mono ?_;rintro e w' ⟨rfl,hb⟩)
 go_ret
 exact RetB.mk rfl hb
theorem def9 (g:Nat) (d:PDef) (wv:Value) (w:World) (hd:DefAt w g 0 d wv) (hs:Strs w wv d.words) (hl:d.words.length≤1000):Calls Tryz.prog 223 #[.pointer (some ⟨g,0,none⟩)] w (RetB w (!riseB d.words)):=by
 obtain ⟨c0,c1,c2,c3,c4⟩:=hd
 go_enter Tryz.func223,Tryz.ntmps223
 go_wp2_with (go_at_call 224;refine (attrRising _ d.words _ hs (by omega)).mono ?_;rintro e w' ⟨rfl,n,rfl⟩)
 go_ret
 exact RetB.mk rfl (below_drewN _ _)
theorem cD1:CallOk 213:=fun _ _=>by kernel_rfl
theorem cD2:CallOk 215:=fun _ _=>by kernel_rfl
theorem cD3:CallOk 216:=fun _ _=>by kernel_rfl
theorem cD4:CallOk 217:=fun _ _=>by kernel_rfl
theorem cD5:CallOk 218:=fun _ _=>by kernel_rfl
theorem cD6:CallOk 219:=fun _ _=>by kernel_rfl
theorem cD7:CallOk 220:=fun _ _=>by kernel_rfl
theorem cD8:CallOk 221:=fun _ _=>by kernel_rfl
theorem cD9:CallOk 223:=fun _ _=>by kernel_rfl
def pattrL (a:PAttr):List PV := [pstr a.name,pint a.kind,pint a.n,pstr a.s]
def pattrs (l:List PAttr):PV:=.sl l.length 4 (l.flatMap pattrL) none
def pdefL (d:PDef):List PV := [pstr d.name,pint d.kind,pint d.lo,pint d.hi,pstrs d.words]
def pdefs (l:List PDef):PV:=.sl l.length 5 (l.flatMap pdefL) none
def pschema (s:PSchema):PV:=.agg [pint s.dims,pint s.metric,pdefs s.defs]
def pentry (e:PEntry):PV:=.agg [pint e.id,pint e.ver,pint e.owner,pint e.filed,pint e.frm,pint e.to,pint e.born,pints e.vec,pattrs e.attrs]
theorem low_pattrL (a:PAttr):∀c∈pattrL a,Low c:=by intro c hc;simp [pattrL] at hc;rcases hc with rfl|rfl|rfl|rfl<;>exact .val _
theorem low_pattrs (l:List PAttr):Low (pattrs l)↔True:=⟨fun _=>trivial,fun _=>.sl _ _ _ _ (fun c hc=>by obtain ⟨a,-,h⟩:=List.mem_flatMap.1 hc;exact low_pattrL a c h)⟩
theorem low_pdefL (d:PDef):∀c∈pdefL d,Low c:=by
 intro c hc;simp [pdefL] at hc
 rcases hc with rfl|rfl|rfl|rfl|rfl
 ·exact .val _
 ·exact .val _
 ·exact .val _
 ·exact .val _
 ·exact (low_pstrs _).2 trivial
theorem low_pdefs (l:List PDef):Low (pdefs l)↔True:=⟨fun _=>trivial,fun _=>.sl _ _ _ _ (fun c hc=>by obtain ⟨a,-,h⟩:=List.mem_flatMap.1 hc;exact low_pdefL a c h)⟩
theorem low_pschema (s:PSchema):Low (pschema s)↔True:=⟨fun _=>trivial,fun _=>.agg _ (by
 intro c hc;simp at hc
 rcases hc with rfl|rfl|rfl
 ·exact .val _
 ·exact .val _
 ·exact (low_pdefs _).2 trivial)⟩
theorem low_pentry (s:PEntry):Low (pentry s)↔True:=⟨fun _=>trivial,fun _=>.agg _ (by
 intro c hc;simp at hc
 rcases hc with rfl|rfl|rfl|rfl|rfl|rfl|rfl|rfl|rfl
 ·exact .val _
 ·exact .val _
 ·exact .val _
 ·exact .val _
 ·exact .val _
 ·exact .val _
 ·exact .val _
 ·exact (low_pints _).2 trivial
 ·exact (low_pattrs _).2 trivial)⟩
end
section
open Go.RowKit
variable {Φ:Imm} {μ:Nat→Option Nat} {w:World} (himm:∀b o u,Φ b o=some u→w.cell? ⟨b,o,none⟩=some u)
include himm
theorem rd_of_rep {α:Type} {f:α→Value} {l:List α} {n:Nat} {own:Option TypeId} {v:Value} (h:Rep Φ μ (.sl n 1 (l.map fun x=>.val (f x)) own) v):Rd w v (l.map f):=by
 obtain ⟨a,b,off,cap,us,rfl,h1,h2,h3,h4,h5,h6⟩:=h.sl_inv
 have hn:n=l.length:=by simpa using h3.symm
 subst hn
 refine ⟨a,cap,b,off,by simp,by simpa using h1,h2,by simpa using h4,fun j u hu=>?_⟩
 have hj:j < l.length:=by have:=(List.getElem?_eq_some_iff.1 hu).1;simpa using this
 have hr:=h6 j (.val (f l[j])) (by simp [hj])
 obtain ⟨e,-⟩:=hr.val_inv
 have:=himm _ _ _ (h5 j (by simpa using hj))
 rw [this,e]
 simp [hj] at hu
 rw [hu]
theorem ints_of_rep {zs:List Int} {v:Value} (h:Rep Φ μ (pints zs) v):Ints w v zs:=rd_of_rep himm h
theorem strs_of_rep {zs:List ByteArray} {v:Value} (h:Rep Φ μ (pstrs zs) v):Strs w v zs:=rd_of_rep himm h
theorem rdS_of_rep {α:Type} {c:α→List Value} {k:Nat} (hk:∀x,(c x).length=k) {l:List α} {own:Option TypeId} {v:Value} (h:Rep Φ μ (.sl l.length k (l.flatMap fun x=>(c x).map .val) own) v):RdS w v k (l.map c):=by
 obtain ⟨a,b,off,cap,us,rfl,h1,h2,h3,h4,h5,h6⟩:=h.sl_inv
 refine ⟨a,cap,b,off,by simp,by simpa using h1,h2,by simpa using h4,fun i j r u hr hu=>?_⟩
 rw [List.getElem?_map] at hr
 obtain ⟨x,hx,rfl⟩:=Option.map_eq_some_iff.1 hr
 have hget:=flatMap_get (f:=fun x=>(c x).map PV.val) (k:=k) (by intro x;simp [hk]) hx (m:=j) (c:=.val u) (by simp [hu])
 have hlt:=(List.getElem?_eq_some_iff.1 hget).1
 obtain ⟨e,-⟩:=(h6 _ _ hget).val_inv
 have:=himm _ _ _ (h5 _ hlt)
 rw [←Nat.add_assoc] at this
 rw [this,e]
theorem attrs_of_rep {l:List PAttr} {v:Value} (h:Rep Φ μ (pattrs l) v):Attrs w v l:=rdS_of_rep himm (c:=attrC) (fun _=>rfl) h
theorem defs_of_rep {l:List PDef} {v:Value} (h:Rep Φ μ (pdefs l) v):Defs w v l:=by
 obtain ⟨a,b,off,cap,us,rfl,h1,h2,h3,h4,h5,h6⟩:=h.sl_inv
 refine ⟨a,cap,b,off,rfl,h1,h2,h4,fun i d hd=>?_⟩
 have cell:∀(m:Nat) (c:PV),(pdefL d)[m]? = some c→w.cell? ⟨b,off+i * 5+m,none⟩=some (us (i * 5+m))∧Rep Φ μ c (us (i * 5+m)):=by
  intro m c hc
  have hget:=flatMap_get (f:=pdefL) (k:=5) (fun _=>rfl) hd hc
  have hlt:=(List.getElem?_eq_some_iff.1 hget).1
  have:=himm _ _ _ (h5 _ hlt)
  rw [←Nat.add_assoc] at this
  exact ⟨this,h6 _ _ hget⟩
 obtain ⟨c0,r0⟩:=cell 0 _ rfl
 obtain ⟨c1,r1⟩:=cell 1 _ rfl
 obtain ⟨c2,r2⟩:=cell 2 _ rfl
 obtain ⟨c3,r3⟩:=cell 3 _ rfl
 obtain ⟨c4,r4⟩:=cell 4 _ rfl
 refine ⟨us (i * 5+4),⟨by rw [Nat.add_zero] at c0;rw [c0,r0.val_inv.1],by rw [c1,r1.val_inv.1],by rw [c2,r2.val_inv.1],by rw [c3,r3.val_inv.1],c4⟩,strs_of_rep himm r4⟩
theorem schema_of_rep {s:PSchema} {v:Value} (h:Rep Φ μ (pschema s) v):SchemaV w v s:=by
 obtain ⟨us,rfl,hr⟩:=h.agg_inv
 match us,hr with
 | [a,b,c],hr=>
  have h0:=(hr.2 0 _ _ rfl rfl).val_inv.1
  have h1:=(hr.2 1 _ _ rfl rfl).val_inv.1
  have h2:=hr.2 2 _ _ rfl rfl
  subst h0 h1
  exact ⟨c,rfl,defs_of_rep himm h2⟩
 | [],hr=>exact absurd hr.1 (by simp)
 | [_],hr=>exact absurd hr.1 (by simp)
 | [_,_],hr=>exact absurd hr.1 (by simp)
 |_ :: _ :: _ :: _ :: _,hr=>exact absurd hr.1 (by simp)
theorem entry_of_rep {e:PEntry} {v:Value} (h:Rep Φ μ (pentry e) v):EntryV w v e:=by
 obtain ⟨us,rfl,hr⟩:=h.agg_inv
 have hl:=hr.1
 simp only [List.length_cons,List.length_nil] at hl
 have g:∀j (h:j < 9),us[j]? = some (us[j]'(by omega)):=fun j h=>by simp [hl,h]
 obtain ⟨x0,x1,x2,x3,x4,x5,x6,x7,x8,rfl⟩:∃x0 x1 x2 x3 x4 x5 x6 x7 x8,us = [x0,x1,x2,x3,x4,x5,x6,x7,x8]:=by
  match us,hl with
  | [x0,x1,x2,x3,x4,x5,x6,x7,x8],_=>exact ⟨x0,x1,x2,x3,x4,x5,x6,x7,x8,rfl⟩
 have h0:=(hr.2 0 _ _ rfl rfl).val_inv.1
 have h1:=(hr.2 1 _ _ rfl rfl).val_inv.1
 have h2:=(hr.2 2 _ _ rfl rfl).val_inv.1
 have h3:=(hr.2 3 _ _ rfl rfl).val_inv.1
 have h4:=(hr.2 4 _ _ rfl rfl).val_inv.1
 have h5:=(hr.2 5 _ _ rfl rfl).val_inv.1
 have h6:=(hr.2 6 _ _ rfl rfl).val_inv.1
 have h7:=hr.2 7 _ _ rfl rfl
 have h8:=hr.2 8 _ _ rfl rfl
 subst h0 h1 h2 h3 h4 h5 h6
 exact ⟨x7,x8,rfl,ints_of_rep himm h7,attrs_of_rep himm h8⟩
end
section
open Go.RowKit
theorem pcalls2 {P:Program} {f:FuncId} {p q:PV} {post:PV→Prop} (hc:callB P f=true) (h:∀(Φ:Imm) (μ:Nat→Option Nat) (w:World) (v u:Value),(∀b o u,Φ b o=some u→w.cell? ⟨b,o,none⟩=some u)→Rep Φ μ p v→Rep Φ μ q u→Calls P f #[v,u] w (CallPost Φ w post)):PCalls P f [p,q] post:=by
 refine ⟨hc,fun Φ μ w vs himm hgl hr=>?_⟩
 match vs,hr with
 | [v,u],hr=>exact h Φ μ w v u himm (hr.2 0 _ _ rfl rfl) (hr.2 1 _ _ rfl rfl)
 | [],hr=>exact absurd hr.1 (by simp)
 | [_],hr=>exact absurd hr.1 (by simp)
 |_ :: _ :: _ :: _,hr=>exact absurd hr.1 (by simp)
end
section
open Go.ChangeShapes Go.WideShapes Go.ChangeAt Go.RowKit
theorem wf64 {z:Int} (h:(Lit.int .i64 z).wf=true):Fit64 z:=by
 simp [Lit.wf,IntKind.min,IntKind.max,IntKind.signed,IntKind.bits] at h
 exact ⟨by omega,by omega⟩
theorem opensInt:Opens Tryz.prog 3 (fun z => [pint z]) Fit64:=(opens_int Tryz.underlying3).map id (fun _ _=>rfl) (fun _ h=>wf64 h)
theorem opensStr:Opens Tryz.prog 9 (fun z => [pstr z]) (fun s=>s.size≤reachBytes):=opens_str Tryz.underlying9
theorem flatMap_one {α:Type} (f:α→PV) (l:List α):l.flatMap (fun x => [f x])=l.map f:=by
 induction l with
 |nil=>rfl
 |cons x l ih=>simp [ih]
theorem opensInts:Opens Tryz.prog 27 (fun l => [pints l]) (fun l=>(∀z∈l,Fit64 z)∧l.length * 8≤reachBytes):=
 (opens_slice Tryz.underlying27 (by kernel_rfl) (by decide) (by kernel_rfl) opensInt (fun _ _=>rfl)).map id (fun a _=>by show [pints a]=_;rw [flatMap_one];rfl) (fun _ h=>h)
theorem opensStrs:Opens Tryz.prog 75 (fun l => [pstrs l]) (fun l=>(∀z∈l,z.size≤reachBytes)∧l.length * 16≤reachBytes):=
 (opens_slice Tryz.underlying75 (by kernel_rfl) (by decide) (by kernel_rfl) opensStr (fun _ _=>rfl)).map id (fun a _=>by show [pstrs a]=_;rw [flatMap_one];rfl) (fun _ h=>h)
theorem opensAttr:Opens Tryz.prog 79 pattrL (fun a=>Fit64 a.kind∧Fit64 a.n):=
 (opens_struct Tryz.underlying79 (opensFs_1 rfl opensStr (by kernel_rfl) (opensFs_1 rfl opensInt (by kernel_rfl) (opensFs_1 rfl opensInt (by kernel_rfl) (opensFs_1 rfl opensStr (by kernel_rfl) opensFs_nil)))) (by kernel_rfl)).map
  (fun p=>⟨p.1,p.2.1,p.2.2.1,p.2.2.2.1⟩) (fun _ _=>rfl) (fun _ h=>⟨h.2.1,h.2.2.1⟩)
theorem opensAttrs:Opens Tryz.prog 48 (fun l => [pattrs l]) (fun l=>(∀a∈l,Fit64 a.kind∧Fit64 a.n)∧l.length * 48≤reachBytes):=
 (opens_slice Tryz.underlying48 (by kernel_rfl) (by decide) (by kernel_rfl) opensAttr (fun _ _=>rfl)).map id (fun a _=>rfl) (fun _ h=>h)
theorem opensDef:Opens Tryz.prog 77 pdefL (fun d=>Fit64 d.kind∧Fit64 d.lo∧Fit64 d.hi∧d.words.length * 16≤reachBytes):=
 (opens_struct Tryz.underlying77 (opensFs_1 rfl opensStr (by kernel_rfl) (opensFs_1 rfl opensInt (by kernel_rfl) (opensFs_1 rfl opensInt (by kernel_rfl) (opensFs_1 rfl opensInt (by kernel_rfl) (opensFs_1 rfl opensStrs (by kernel_rfl) opensFs_nil))))) (by kernel_rfl)).map
  (fun p=>⟨p.1,p.2.1,p.2.2.1,p.2.2.2.1,p.2.2.2.2.1⟩) (fun _ _=>rfl) (fun _ h=>by obtain ⟨a,b,c,d,e,f⟩:=h;exact ⟨b,c,d,e.2⟩)
theorem opensDefs:Opens Tryz.prog 22 (fun l => [pdefs l]) (fun l=>(∀d∈l,Fit64 d.kind∧Fit64 d.lo∧Fit64 d.hi∧d.words.length * 16≤reachBytes)∧l.length * 64≤reachBytes):=
 (opens_slice Tryz.underlying22 (by kernel_rfl) (by decide) (by kernel_rfl) opensDef (fun _ _=>rfl)).map id (fun a _=>rfl) (fun _ h=>h)
structure GoodS (s:PSchema):Prop where
 dims:Fit64 s.dims
 metric:Fit64 s.metric
 defs:∀d∈s.defs,Fit64 d.kind∧Fit64 d.lo∧Fit64 d.hi∧d.words.length * 16≤reachBytes
 len:s.defs.length * 64≤reachBytes
theorem argSchema:ArgOpens Tryz.prog 24 pschema GoodS:=
 (arg_struct Tryz.underlying24 (opens_struct Tryz.underlying24 (opensFs_1 rfl opensInt (by kernel_rfl) (opensFs_1 rfl opensInt (by kernel_rfl) (opensFs_1 rfl opensDefs (by kernel_rfl) opensFs_nil))) (by kernel_rfl))).map
  (fun p=>⟨p.1,p.2.1,p.2.2.1⟩) (fun _ _=>rfl) (fun _ h=>by obtain ⟨a,b,c,d⟩:=h;exact ⟨a,b,c.1,c.2⟩)
structure GoodE (e:PEntry):Prop where
 fit:FitE e
 vec:e.vec.length * 8≤reachBytes
 attrs:e.attrs.length * 48≤reachBytes
theorem reach_eq:reachBytes=140737488351232:=rfl
end
section
open Go.RowKit
def pintsO (zs:List Int):PV:=.sl zs.length 1 (zs.map pint) (some 3)
def typeTab:Tab := [
 none,
 some { size:=1,agg:=false,kind:=.func,zero := [.val .nilFunc],eqs := [] },
 some { size:=1,agg:=false,kind:=.int .i64,zero := [.val (.int .i64 0)],eqs := [] },
 some { size:=1,agg:=false,kind:=.int .i64,zero := [.val (.int .i64 0)],eqs := [] },
 some { size:=1,agg:=false,kind:=.bool,zero := [.val (.bool false)],eqs := [] },
 some { size:=1,agg:=false,kind:=.int .u8,zero := [.val (.int .u8 0)],eqs := [] },
 some { size:=1,agg:=false,kind:=.int .u8,zero := [.val (.int .u8 0)],eqs := [] },
 some { size:=4,agg:=true,kind:=.struct [(0,1,false),(1,1,false),(2,1,false),(3,1,false)],zero := [.val (.int .i64 0), .val (.int .i64 0), .val (.bool false), .val (.int .u8 0)],eqs := [.int, .int, .bool, .int] },
 some { size:=4,agg:=true,kind:=.struct [(0,1,false),(1,1,false),(2,1,false),(3,1,false)],zero := [.val (.int .i64 0), .val (.int .i64 0), .val (.bool false), .val (.int .u8 0)],eqs := [.int, .int, .bool, .int] },
 some { size:=1,agg:=false,kind:=.str,zero := [.val (.string { data:={ toList := [] } })],eqs := [] },
 some { size:=1,agg:=false,kind:=.str,zero := [.val (.string { data:={ toList := [] } })],eqs := [] },
 some { size:=1,agg:=false,kind:=.str,zero := [.val (.string { data:={ toList := [] } })],eqs := [] },
 some { size:=1,agg:=false,kind:=.int .u64,zero := [.val (.int .u64 0)],eqs := [] },
 some { size:=2,agg:=true,kind:=.struct [(0,1,false),(1,1,false)],zero := [.val (.string { data:={ toList := [] } }), .val (.int .u64 0)],eqs := [] },
 some { size:=2,agg:=true,kind:=.struct [(0,1,false),(1,1,false)],zero := [.val (.string { data:={ toList := [] } }), .val (.int .u64 0)],eqs := [] },
 some { size:=1,agg:=false,kind:=.ptr,zero := [.val (.pointer none)],eqs := [] },
 some { size:=1,agg:=false,kind:=.ptr,zero := [.val (.pointer none)],eqs := [] },
 some { size:=1,agg:=false,kind:=.ptr,zero := [.val (.pointer none)],eqs := [] },
 some { size:=1,agg:=true,kind:=.struct [(0,1,false)],zero := [.val (.pointer none)],eqs := [] },
 some { size:=1,agg:=true,kind:=.struct [(0,1,false)],zero := [.val (.pointer none)],eqs := [] },
 some { size:=1,agg:=false,kind:=.other,zero := [.val .nilIface],eqs := [] },
 some { size:=1,agg:=false,kind:=.int .i32,zero := [.val (.int .i32 0)],eqs := [] },
 some { size:=1,agg:=false,kind:=.slice 77 5 64 [.val (.string { data:={ toList := [] } }), .val (.int .i64 0), .val (.int .i64 0), .val (.int .i64 0), .nilsl],zero := [.nilsl],eqs := [] },
 some { size:=3,agg:=true,kind:=.struct [(0,1,false),(1,1,false),(2,1,false)],zero := [.val (.int .i64 0), .val (.int .i64 0), .nilsl],eqs := [] },
 some { size:=3,agg:=true,kind:=.struct [(0,1,false),(1,1,false),(2,1,false)],zero := [.val (.int .i64 0), .val (.int .i64 0), .nilsl],eqs := [] },
 some { size:=1,agg:=false,kind:=.slice 27 1 24 [.nilsl],zero := [.nilsl],eqs := [] },
 some { size:=1,agg:=false,kind:=.slice 50 9 104 [.val (.int .i64 0), .val (.int .i64 0), .val (.int .i64 0), .val (.int .i64 0), .val (.int .i64 0), .val (.int .i64 0), .val (.int .i64 0), .nilsl, .nilsl],zero := [.nilsl],eqs := [] },
 some { size:=1,agg:=false,kind:=.slice 3 1 8 [.val (.int .i64 0)],zero := [.nilsl],eqs := [] },
 some { size:=2,agg:=true,kind:=.struct [(0,1,false),(1,1,false)],zero := [.nilsl, .nilsl],eqs := [] },
 some { size:=2,agg:=true,kind:=.struct [(0,1,false),(1,1,false)],zero := [.nilsl, .nilsl],eqs := [] },
 some { size:=1,agg:=false,kind:=.slice 119 2 16 [.val (.int .i64 0), .val (.int .i64 0)],zero := [.nilsl],eqs := [] },
 some { size:=1,agg:=false,kind:=.slice 100 4 48 [.val (.int .i64 0), .val (.int .i64 0), .val (.int .i64 0), .nilsl],zero := [.nilsl],eqs := [] },
 some { size:=10,agg:=true,kind:=.struct [(0,1,false),(1,2,true),(3,1,false),(4,1,false),(5,1,false),(6,1,false),(7,1,false),(8,1,false),(9,1,false)],zero := [.val (.int .i64 0), .nilsl, .nilsl, .nilsl, .val (.int .i64 0), .val (.int .i64 0), .val (.int .i64 0), .val (.int .i64 0), .val (.int .i64 0), .nilsl],eqs := [] },
 some { size:=10,agg:=true,kind:=.struct [(0,1,false),(1,2,true),(3,1,false),(4,1,false),(5,1,false),(6,1,false),(7,1,false),(8,1,false),(9,1,false)],zero := [.val (.int .i64 0), .nilsl, .nilsl, .nilsl, .val (.int .i64 0), .val (.int .i64 0), .val (.int .i64 0), .val (.int .i64 0), .val (.int .i64 0), .nilsl],eqs := [] },
 some { size:=1,agg:=false,kind:=.func,zero := [.val .nilFunc],eqs := [] },
 some { size:=1,agg:=false,kind:=.func,zero := [.val .nilFunc],eqs := [] },
 some { size:=1,agg:=false,kind:=.func,zero := [.val .nilFunc],eqs := [] },
 some { size:=1,agg:=false,kind:=.func,zero := [.val .nilFunc],eqs := [] },
 some { size:=1,agg:=false,kind:=.int .i64,zero := [.val (.int .i64 0)],eqs := [] },
 none,
 some { size:=1,agg:=false,kind:=.func,zero := [.val .nilFunc],eqs := [] },
 some { size:=11,agg:=true,kind:=.struct [(0,10,true),(10,1,false)],zero := [.val (.int .i64 0), .nilsl, .nilsl, .nilsl, .val (.int .i64 0), .val (.int .i64 0), .val (.int .i64 0), .val (.int .i64 0), .val (.int .i64 0), .nilsl, .val (.int .i64 0)],eqs := [] },
 some { size:=11,agg:=true,kind:=.struct [(0,10,true),(10,1,false)],zero := [.val (.int .i64 0), .nilsl, .nilsl, .nilsl, .val (.int .i64 0), .val (.int .i64 0), .val (.int .i64 0), .val (.int .i64 0), .val (.int .i64 0), .nilsl, .val (.int .i64 0)],eqs := [] },
 some { size:=1,agg:=false,kind:=.func,zero := [.val .nilFunc],eqs := [] },
 some { size:=1,agg:=false,kind:=.func,zero := [.val .nilFunc],eqs := [] },
 some { size:=1,agg:=false,kind:=.func,zero := [.val .nilFunc],eqs := [] },
 some { size:=1,agg:=false,kind:=.func,zero := [.val .nilFunc],eqs := [] },
 some { size:=1,agg:=false,kind:=.func,zero := [.val .nilFunc],eqs := [] },
 some { size:=1,agg:=false,kind:=.slice 79 4 48 [.val (.string { data:={ toList := [] } }), .val (.int .i64 0), .val (.int .i64 0), .val (.string { data:={ toList := [] } })],zero := [.nilsl],eqs := [] },
 some { size:=9,agg:=true,kind:=.struct [(0,1,false),(1,1,false),(2,1,false),(3,1,false),(4,1,false),(5,1,false),(6,1,false),(7,1,false),(8,1,false)],zero := [.val (.int .i64 0), .val (.int .i64 0), .val (.int .i64 0), .val (.int .i64 0), .val (.int .i64 0), .val (.int .i64 0), .val (.int .i64 0), .nilsl, .nilsl],eqs := [] },
 some { size:=9,agg:=true,kind:=.struct [(0,1,false),(1,1,false),(2,1,false),(3,1,false),(4,1,false),(5,1,false),(6,1,false),(7,1,false),(8,1,false)],zero := [.val (.int .i64 0), .val (.int .i64 0), .val (.int .i64 0), .val (.int .i64 0), .val (.int .i64 0), .val (.int .i64 0), .val (.int .i64 0), .nilsl, .nilsl],eqs := [] },
 some { size:=1,agg:=false,kind:=.func,zero := [.val .nilFunc],eqs := [] },
 some { size:=1,agg:=false,kind:=.slice 54 6 80 [.val (.int .i64 0), .val (.string { data:={ toList := [] } }), .val (.int .i64 0), .val (.int .i64 0), .val (.string { data:={ toList := [] } }), .nilsl],zero := [.nilsl],eqs := [] },
 some { size:=6,agg:=true,kind:=.struct [(0,1,false),(1,1,false),(2,1,false),(3,1,false),(4,1,false),(5,1,false)],zero := [.val (.int .i64 0), .val (.string { data:={ toList := [] } }), .val (.int .i64 0), .val (.int .i64 0), .val (.string { data:={ toList := [] } }), .nilsl],eqs := [] },
 some { size:=6,agg:=true,kind:=.struct [(0,1,false),(1,1,false),(2,1,false),(3,1,false),(4,1,false),(5,1,false)],zero := [.val (.int .i64 0), .val (.string { data:={ toList := [] } }), .val (.int .i64 0), .val (.int .i64 0), .val (.string { data:={ toList := [] } }), .nilsl],eqs := [] },
 some { size:=2,agg:=true,kind:=.struct [(0,1,false),(1,1,false)],zero := [.val (.int .i64 0), .val (.int .i64 0)],eqs := [.int, .int] },
 some { size:=2,agg:=true,kind:=.struct [(0,1,false),(1,1,false)],zero := [.val (.int .i64 0), .val (.int .i64 0)],eqs := [.int, .int] },
 none,
 some { size:=1,agg:=false,kind:=.func,zero := [.val .nilFunc],eqs := [] },
 some { size:=2,agg:=true,kind:=.struct [(0,1,false),(1,1,false)],zero := [.val (.int .i64 0), .val (.int .i64 0)],eqs := [.int, .int] },
 some { size:=2,agg:=true,kind:=.struct [(0,1,false),(1,1,false)],zero := [.val (.int .i64 0), .val (.int .i64 0)],eqs := [.int, .int] },
 some { size:=1,agg:=false,kind:=.func,zero := [.val .nilFunc],eqs := [] },
 some { size:=1,agg:=false,kind:=.func,zero := [.val .nilFunc],eqs := [] },
 some { size:=1,agg:=false,kind:=.func,zero := [.val .nilFunc],eqs := [] },
 some { size:=1,agg:=false,kind:=.func,zero := [.val .nilFunc],eqs := [] },
 none,
 some { size:=1,agg:=false,kind:=.func,zero := [.val .nilFunc],eqs := [] },
 some { size:=2,agg:=true,kind:=.struct [(0,1,false),(1,1,false)],zero := [.val (.bool false), .val (.bool false)],eqs := [.bool, .bool] },
 some { size:=2,agg:=true,kind:=.struct [(0,1,false),(1,1,false)],zero := [.val (.bool false), .val (.bool false)],eqs := [.bool, .bool] },
 some { size:=1,agg:=false,kind:=.func,zero := [.val .nilFunc],eqs := [] },
 some { size:=1,agg:=false,kind:=.func,zero := [.val .nilFunc],eqs := [] },
 some { size:=1,agg:=false,kind:=.func,zero := [.val .nilFunc],eqs := [] },
 some { size:=1,agg:=false,kind:=.func,zero := [.val .nilFunc],eqs := [] },
 some { size:=1,agg:=false,kind:=.func,zero := [.val .nilFunc],eqs := [] },
 some { size:=1,agg:=false,kind:=.func,zero := [.val .nilFunc],eqs := [] },
 some { size:=1,agg:=false,kind:=.slice 9 1 16 [.val (.string { data:={ toList := [] } })],zero := [.nilsl],eqs := [] },
 some { size:=5,agg:=true,kind:=.struct [(0,1,false),(1,1,false),(2,1,false),(3,1,false),(4,1,false)],zero := [.val (.string { data:={ toList := [] } }), .val (.int .i64 0), .val (.int .i64 0), .val (.int .i64 0), .nilsl],eqs := [] },
 some { size:=5,agg:=true,kind:=.struct [(0,1,false),(1,1,false),(2,1,false),(3,1,false),(4,1,false)],zero := [.val (.string { data:={ toList := [] } }), .val (.int .i64 0), .val (.int .i64 0), .val (.int .i64 0), .nilsl],eqs := [] },
 some { size:=4,agg:=true,kind:=.struct [(0,1,false),(1,1,false),(2,1,false),(3,1,false)],zero := [.val (.string { data:={ toList := [] } }), .val (.int .i64 0), .val (.int .i64 0), .val (.string { data:={ toList := [] } })],eqs := [.str, .int, .int, .str] },
 some { size:=4,agg:=true,kind:=.struct [(0,1,false),(1,1,false),(2,1,false),(3,1,false)],zero := [.val (.string { data:={ toList := [] } }), .val (.int .i64 0), .val (.int .i64 0), .val (.string { data:={ toList := [] } })],eqs := [.str, .int, .int, .str] },
 none,
 some { size:=1,agg:=false,kind:=.func,zero := [.val .nilFunc],eqs := [] },
 some { size:=1,agg:=false,kind:=.func,zero := [.val .nilFunc],eqs := [] },
 some { size:=1,agg:=false,kind:=.func,zero := [.val .nilFunc],eqs := [] },
 some { size:=1,agg:=false,kind:=.func,zero := [.val .nilFunc],eqs := [] },
 some { size:=1,agg:=false,kind:=.int .u32,zero := [.val (.int .u32 0)],eqs := [] },
 some { size:=1,agg:=false,kind:=.func,zero := [.val .nilFunc],eqs := [] },
 some { size:=1,agg:=false,kind:=.func,zero := [.val .nilFunc],eqs := [] },
 some { size:=1,agg:=false,kind:=.func,zero := [.val .nilFunc],eqs := [] },
 some { size:=1,agg:=false,kind:=.func,zero := [.val .nilFunc],eqs := [] },
 some { size:=1,agg:=false,kind:=.func,zero := [.val .nilFunc],eqs := [] },
 some { size:=1,agg:=false,kind:=.func,zero := [.val .nilFunc],eqs := [] },
 some { size:=1,agg:=false,kind:=.slice 5 1 1 [.val (.int .u8 0)],zero := [.nilsl],eqs := [] },
 some { size:=1,agg:=false,kind:=.func,zero := [.val .nilFunc],eqs := [] },
 some { size:=1,agg:=false,kind:=.func,zero := [.val .nilFunc],eqs := [] },
 some { size:=1,agg:=false,kind:=.func,zero := [.val .nilFunc],eqs := [] },
 some { size:=1,agg:=false,kind:=.func,zero := [.val .nilFunc],eqs := [] },
 some { size:=1,agg:=false,kind:=.func,zero := [.val .nilFunc],eqs := [] },
 some { size:=1,agg:=false,kind:=.func,zero := [.val .nilFunc],eqs := [] },
 some { size:=4,agg:=true,kind:=.struct [(0,1,false),(1,1,false),(2,1,false),(3,1,false)],zero := [.val (.int .i64 0), .val (.int .i64 0), .val (.int .i64 0), .nilsl],eqs := [] },
 some { size:=4,agg:=true,kind:=.struct [(0,1,false),(1,1,false),(2,1,false),(3,1,false)],zero := [.val (.int .i64 0), .val (.int .i64 0), .val (.int .i64 0), .nilsl],eqs := [] },
 none,
 some { size:=1,agg:=false,kind:=.func,zero := [.val .nilFunc],eqs := [] },
 some { size:=1,agg:=false,kind:=.func,zero := [.val .nilFunc],eqs := [] },
 some { size:=1,agg:=false,kind:=.func,zero := [.val .nilFunc],eqs := [] },
 none,
 some { size:=1,agg:=false,kind:=.func,zero := [.val .nilFunc],eqs := [] },
 none,
 some { size:=1,agg:=false,kind:=.func,zero := [.val .nilFunc],eqs := [] },
 some { size:=1,agg:=false,kind:=.func,zero := [.val .nilFunc],eqs := [] },
 some { size:=1,agg:=false,kind:=.func,zero := [.val .nilFunc],eqs := [] },
 some { size:=1,agg:=false,kind:=.func,zero := [.val .nilFunc],eqs := [] },
 some { size:=1,agg:=false,kind:=.func,zero := [.val .nilFunc],eqs := [] },
 some { size:=1,agg:=false,kind:=.func,zero := [.val .nilFunc],eqs := [] },
 some { size:=1,agg:=false,kind:=.func,zero := [.val .nilFunc],eqs := [] },
 some { size:=1,agg:=false,kind:=.func,zero := [.val .nilFunc],eqs := [] },
 some { size:=1,agg:=false,kind:=.func,zero := [.val .nilFunc],eqs := [] },
 some { size:=1,agg:=false,kind:=.func,zero := [.val .nilFunc],eqs := [] },
 some { size:=2,agg:=true,kind:=.struct [(0,1,false),(1,1,false)],zero := [.val (.int .i64 0), .val (.int .i64 0)],eqs := [.int, .int] },
 some { size:=2,agg:=true,kind:=.struct [(0,1,false),(1,1,false)],zero := [.val (.int .i64 0), .val (.int .i64 0)],eqs := [.int, .int] },
 some { size:=1,agg:=false,kind:=.func,zero := [.val .nilFunc],eqs := [] },
 some { size:=1,agg:=false,kind:=.func,zero := [.val .nilFunc],eqs := [] },
 some { size:=1,agg:=false,kind:=.func,zero := [.val .nilFunc],eqs := [] },
 some { size:=1,agg:=false,kind:=.func,zero := [.val .nilFunc],eqs := [] },
 some { size:=2,agg:=true,kind:=.struct [(0,1,false),(1,1,false)],zero := [.val (.int .i64 0), .val (.int .i64 0)],eqs := [.int, .int] },
 some { size:=1,agg:=false,kind:=.func,zero := [.val .nilFunc],eqs := [] },
 some { size:=3,agg:=true,kind:=.struct [(0,1,false),(1,1,false),(2,1,false)],zero := [.val (.int .i64 0), .val (.int .i64 0), .val (.int .i64 0)],eqs := [.int, .int, .int] },
 some { size:=3,agg:=true,kind:=.struct [(0,1,false),(1,1,false),(2,1,false)],zero := [.val (.int .i64 0), .val (.int .i64 0), .val (.int .i64 0)],eqs := [.int, .int, .int] },
 some { size:=1,agg:=false,kind:=.func,zero := [.val .nilFunc],eqs := [] },
 some { size:=1,agg:=false,kind:=.func,zero := [.val .nilFunc],eqs := [] },
 some { size:=1,agg:=false,kind:=.func,zero := [.val .nilFunc],eqs := [] },
 some { size:=1,agg:=false,kind:=.func,zero := [.val .nilFunc],eqs := [] },
 some { size:=1,agg:=false,kind:=.func,zero := [.val .nilFunc],eqs := [] },
 some { size:=2,agg:=true,kind:=.struct [(0,1,false),(1,1,false)],zero := [.val (.bool false), .val (.bool false)],eqs := [.bool, .bool] },
 some { size:=2,agg:=true,kind:=.struct [(0,1,false),(1,1,false)],zero := [.val (.bool false), .val (.bool false)],eqs := [.bool, .bool] },
 some { size:=1,agg:=false,kind:=.ptr,zero := [.val (.pointer none)],eqs := [] },
 some { size:=1,agg:=false,kind:=.map 3 214,zero := [.val (.map none)],eqs := [] },
 some { size:=1,agg:=false,kind:=.func,zero := [.val .nilFunc],eqs := [] },
 some { size:=14,agg:=true,kind:=.struct [(0,3,true),(3,10,true),(13,1,false)],zero:=([.val (.int .i64 0), .val (.int .i64 0), .nilsl, .val (.int .i64 0), .nilsl, .nilsl, .nilsl, .val (.int .i64 0), .val (.int .i64 0), .val (.int .i64 0), .val (.int .i64 0), .val (.int .i64 0), .nilsl, .val (.map none)]),eqs := [] },
 some { size:=14,agg:=true,kind:=.struct [(0,3,true),(3,10,true),(13,1,false)],zero:=([.val (.int .i64 0), .val (.int .i64 0), .nilsl, .val (.int .i64 0), .nilsl, .nilsl, .nilsl, .val (.int .i64 0), .val (.int .i64 0), .val (.int .i64 0), .val (.int .i64 0), .val (.int .i64 0), .nilsl, .val (.map none)]),eqs := [] },
 some { size:=1,agg:=false,kind:=.func,zero := [.val .nilFunc],eqs := [] },
 some { size:=1,agg:=false,kind:=.func,zero := [.val .nilFunc],eqs := [] },
 some { size:=2,agg:=true,kind:=.struct [(0,1,false),(1,1,false)],zero := [.val .nilFunc, .val (.int .i64 0)],eqs := [] },
 some { size:=2,agg:=true,kind:=.struct [(0,1,false),(1,1,false)],zero := [.val .nilFunc, .val (.int .i64 0)],eqs := [] },
 some { size:=1,agg:=false,kind:=.func,zero := [.val .nilFunc],eqs := [] },
 some { size:=2,agg:=true,kind:=.struct [(0,1,false),(1,1,false)],zero := [.val (.int .i64 0), .val (.int .i64 0)],eqs := [.int, .int] },
 some { size:=2,agg:=true,kind:=.struct [(0,1,false),(1,1,false)],zero := [.val (.int .i64 0), .val (.int .i64 0)],eqs := [.int, .int] },
 some { size:=1,agg:=false,kind:=.func,zero := [.val .nilFunc],eqs := [] },
 some { size:=1,agg:=false,kind:=.func,zero := [.val .nilFunc],eqs := [] },
 some { size:=1,agg:=false,kind:=.func,zero := [.val .nilFunc],eqs := [] },
 some { size:=1,agg:=false,kind:=.func,zero := [.val .nilFunc],eqs := [] },
 some { size:=1,agg:=false,kind:=.func,zero := [.val .nilFunc],eqs := [] },
 some { size:=1,agg:=false,kind:=.func,zero := [.val .nilFunc],eqs := [] },
 some { size:=1,agg:=false,kind:=.func,zero := [.val .nilFunc],eqs := [] },
 some { size:=1,agg:=false,kind:=.func,zero := [.val .nilFunc],eqs := [] },
 some { size:=1,agg:=false,kind:=.func,zero := [.val .nilFunc],eqs := [] },
 some { size:=8,agg:=true,kind:=.arr 2 100 4 true,zero := [.val (.int .i64 0), .val (.int .i64 0), .val (.int .i64 0), .nilsl, .val (.int .i64 0), .val (.int .i64 0), .val (.int .i64 0), .nilsl],eqs := [] },
 some { size:=1,agg:=false,kind:=.func,zero := [.val .nilFunc],eqs := [] },
 some { size:=1,agg:=false,kind:=.func,zero := [.val .nilFunc],eqs := [] },
 some { size:=1,agg:=false,kind:=.func,zero := [.val .nilFunc],eqs := [] },
 some { size:=1,agg:=false,kind:=.func,zero := [.val .nilFunc],eqs := [] },
 some { size:=1,agg:=false,kind:=.func,zero := [.val .nilFunc],eqs := [] },
 some { size:=1,agg:=false,kind:=.func,zero := [.val .nilFunc],eqs := [] },
 some { size:=1,agg:=false,kind:=.func,zero := [.val .nilFunc],eqs := [] },
 some { size:=1,agg:=false,kind:=.map 9 4,zero := [.val (.map none)],eqs := [] },
 some { size:=1,agg:=false,kind:=.func,zero := [.val .nilFunc],eqs := [] },
 some { size:=1,agg:=false,kind:=.func,zero := [.val .nilFunc],eqs := [] },
 some { size:=4,agg:=true,kind:=.struct [(0,2,true),(2,1,false),(3,1,false)],zero := [.nilsl, .nilsl, .val (.bool false), .val (.int .i64 0)],eqs := [] },
 some { size:=4,agg:=true,kind:=.struct [(0,2,true),(2,1,false),(3,1,false)],zero := [.nilsl, .nilsl, .val (.bool false), .val (.int .i64 0)],eqs := [] },
 some { size:=1,agg:=false,kind:=.func,zero := [.val .nilFunc],eqs := [] },
 some { size:=2,agg:=true,kind:=.struct [(0,1,false),(1,1,false)],zero := [.nilsl, .val (.int .i64 0)],eqs := [] },
 some { size:=2,agg:=true,kind:=.struct [(0,1,false),(1,1,false)],zero := [.nilsl, .val (.int .i64 0)],eqs := [] },
 some { size:=1,agg:=false,kind:=.func,zero := [.val .nilFunc],eqs := [] },
 some { size:=1,agg:=false,kind:=.func,zero := [.val .nilFunc],eqs := [] },
 some { size:=1,agg:=false,kind:=.func,zero := [.val .nilFunc],eqs := [] },
 some { size:=1,agg:=false,kind:=.func,zero := [.val .nilFunc],eqs := [] },
 none,
 some { size:=1,agg:=false,kind:=.func,zero := [.val .nilFunc],eqs := [] },
 none,
 some { size:=1,agg:=false,kind:=.func,zero := [.val .nilFunc],eqs := [] },
 some { size:=1,agg:=false,kind:=.ptr,zero := [.val (.pointer none)],eqs := [] },
 some { size:=3,agg:=true,kind:=.struct [(0,1,false),(1,1,false),(2,1,false)],zero := [.nilsl, .nilsl, .val (.bool false)],eqs := [] },
 some { size:=3,agg:=true,kind:=.struct [(0,1,false),(1,1,false),(2,1,false)],zero := [.nilsl, .nilsl, .val (.bool false)],eqs := [] },
 some { size:=1,agg:=false,kind:=.func,zero := [.val .nilFunc],eqs := [] },
 some { size:=1,agg:=false,kind:=.func,zero := [.val .nilFunc],eqs := [] },
 some { size:=1,agg:=false,kind:=.func,zero := [.val .nilFunc],eqs := [] },
 some { size:=1,agg:=false,kind:=.func,zero := [.val .nilFunc],eqs := [] },
 some { size:=1,agg:=false,kind:=.func,zero := [.val .nilFunc],eqs := [] },
 some { size:=1,agg:=false,kind:=.func,zero := [.val .nilFunc],eqs := [] },
 some { size:=1,agg:=false,kind:=.func,zero := [.val .nilFunc],eqs := [] },
 some { size:=1,agg:=false,kind:=.func,zero := [.val .nilFunc],eqs := [] },
 some { size:=1,agg:=false,kind:=.func,zero := [.val .nilFunc],eqs := [] },
 some { size:=1,agg:=false,kind:=.func,zero := [.val .nilFunc],eqs := [] },
 none,
 some { size:=1,agg:=false,kind:=.func,zero := [.val .nilFunc],eqs := [] },
 some { size:=1,agg:=false,kind:=.func,zero := [.val .nilFunc],eqs := [] },
 some { size:=5,agg:=true,kind:=.struct [(0,4,true),(4,1,false)],zero := [.val (.string { data:={ toList := [] } }), .val (.int .i64 0), .val (.int .i64 0), .val (.string { data:={ toList := [] } }), .val (.bool false)],eqs := [.str, .int, .int, .str, .bool] },
 some { size:=5,agg:=true,kind:=.struct [(0,4,true),(4,1,false)],zero := [.val (.string { data:={ toList := [] } }), .val (.int .i64 0), .val (.int .i64 0), .val (.string { data:={ toList := [] } }), .val (.bool false)],eqs := [.str, .int, .int, .str, .bool] },
 some { size:=1,agg:=false,kind:=.func,zero := [.val .nilFunc],eqs := [] },
 some { size:=1,agg:=false,kind:=.func,zero := [.val .nilFunc],eqs := [] },
 some { size:=1,agg:=false,kind:=.func,zero := [.val .nilFunc],eqs := [] },
 some { size:=1,agg:=false,kind:=.func,zero := [.val .nilFunc],eqs := [] },
 some { size:=1,agg:=false,kind:=.func,zero := [.val .nilFunc],eqs := [] },
 some { size:=1,agg:=false,kind:=.func,zero := [.val .nilFunc],eqs := [] },
 some { size:=1,agg:=false,kind:=.func,zero := [.val .nilFunc],eqs := [] },
 some { size:=1,agg:=false,kind:=.func,zero := [.val .nilFunc],eqs := [] },
 some { size:=1,agg:=false,kind:=.func,zero := [.val .nilFunc],eqs := [] },
 some { size:=1,agg:=false,kind:=.func,zero := [.val .nilFunc],eqs := [] },
 some { size:=1,agg:=false,kind:=.func,zero := [.val .nilFunc],eqs := [] },
 some { size:=1,agg:=false,kind:=.func,zero := [.val .nilFunc],eqs := [] },
 some { size:=1,agg:=false,kind:=.func,zero := [.val .nilFunc],eqs := [] },
 some { size:=1,agg:=false,kind:=.func,zero := [.val .nilFunc],eqs := [] },
 some { size:=1,agg:=false,kind:=.func,zero := [.val .nilFunc],eqs := [] },
 some { size:=1,agg:=false,kind:=.func,zero := [.val .nilFunc],eqs := [] },
 some { size:=1,agg:=false,kind:=.func,zero := [.val .nilFunc],eqs := [] },
 some { size:=1,agg:=false,kind:=.slice 134 2 2 [.val (.bool false), .val (.bool false)],zero := [.nilsl],eqs := [] },
 some { size:=1,agg:=false,kind:=.func,zero := [.val .nilFunc],eqs := [] },
 some { size:=1,agg:=false,kind:=.func,zero := [.val .nilFunc],eqs := [] },
 some { size:=1,agg:=false,kind:=.func,zero := [.val .nilFunc],eqs := [] },
 some { size:=1,agg:=false,kind:=.slice 143 2 16 [.val .nilFunc, .val (.int .i64 0)],zero := [.nilsl],eqs := [] },
 some { size:=1,agg:=false,kind:=.func,zero := [.val .nilFunc],eqs := [] },
 some { size:=1,agg:=false,kind:=.func,zero := [.val .nilFunc],eqs := [] },
 some { size:=1,agg:=false,kind:=.func,zero := [.val .nilFunc],eqs := [] },
 some { size:=1,agg:=false,kind:=.func,zero := [.val .nilFunc],eqs := [] },
 some { size:=1,agg:=false,kind:=.func,zero := [.val .nilFunc],eqs := [] },
 some { size:=1,agg:=false,kind:=.map 3 192,zero := [.val (.map none)],eqs := [] },
 some { size:=1,agg:=false,kind:=.func,zero := [.val .nilFunc],eqs := [] },
 some { size:=1,agg:=false,kind:=.slice 79 4 48 [.val (.string { data:={ toList := [] } }), .val (.int .i64 0), .val (.int .i64 0), .val (.string { data:={ toList := [] } })],zero := [.nilsl],eqs := [] },
 some { size:=1,agg:=false,kind:=.slice 75 1 24 [.nilsl],zero := [.nilsl],eqs := [] },
 some { size:=1,agg:=false,kind:=.func,zero := [.val .nilFunc],eqs := [] },
 some { size:=1,agg:=false,kind:=.func,zero := [.val .nilFunc],eqs := [] },
 some { size:=1,agg:=false,kind:=.func,zero := [.val .nilFunc],eqs := [] },
 some { size:=1,agg:=false,kind:=.func,zero := [.val .nilFunc],eqs := [] },
 some { size:=1,agg:=false,kind:=.func,zero := [.val .nilFunc],eqs := [] },
 some { size:=1,agg:=false,kind:=.func,zero := [.val .nilFunc],eqs := [] },
 some { size:=1,agg:=false,kind:=.func,zero := [.val .nilFunc],eqs := [] },
 some { size:=1,agg:=false,kind:=.func,zero := [.val .nilFunc],eqs := [] },
 some { size:=1,agg:=false,kind:=.func,zero := [.val .nilFunc],eqs := [] },
 some { size:=1,agg:=false,kind:=.func,zero := [.val .nilFunc],eqs := [] },
 some { size:=1,agg:=false,kind:=.func,zero := [.val .nilFunc],eqs := [] },
 some { size:=1,agg:=false,kind:=.func,zero := [.val .nilFunc],eqs := [] },
 some { size:=1,agg:=false,kind:=.func,zero := [.val .nilFunc],eqs := [] },
 some { size:=1,agg:=false,kind:=.func,zero := [.val .nilFunc],eqs := [] },
 some { size:=1,agg:=false,kind:=.func,zero := [.val .nilFunc],eqs := [] },
 none,
 some { size:=1,agg:=false,kind:=.func,zero := [.val .nilFunc],eqs := [] },
 none,
 none,
 some { size:=1,agg:=false,kind:=.func,zero := [.val .nilFunc],eqs := [] },
 some { size:=1,agg:=false,kind:=.func,zero := [.val .nilFunc],eqs := [] },
 some { size:=1,agg:=false,kind:=.func,zero := [.val .nilFunc],eqs := [] },
 some { size:=1,agg:=false,kind:=.func,zero := [.val .nilFunc],eqs := [] },
 some { size:=1,agg:=false,kind:=.func,zero := [.val .nilFunc],eqs := [] },
 some { size:=1,agg:=false,kind:=.func,zero := [.val .nilFunc],eqs := [] },
 some { size:=1,agg:=false,kind:=.func,zero := [.val .nilFunc],eqs := [] },
 none,
 some { size:=1,agg:=false,kind:=.func,zero := [.val .nilFunc],eqs := [] },
 some { size:=1,agg:=false,kind:=.func,zero := [.val .nilFunc],eqs := [] },
 none,
 some { size:=1,agg:=false,kind:=.map 3 131,zero := [.val (.map none)],eqs := [] },
 some { size:=1,agg:=false,kind:=.func,zero := [.val .nilFunc],eqs := [] },
 some { size:=1,agg:=false,kind:=.int .u64,zero := [.val (.int .u64 0)],eqs := [] },
 some { size:=1,agg:=false,kind:=.int .u64,zero := [.val (.int .u64 0)],eqs := [] },
 some { size:=1,agg:=false,kind:=.func,zero := [.val .nilFunc],eqs := [] },
 some { size:=1,agg:=false,kind:=.func,zero := [.val .nilFunc],eqs := [] },
 some { size:=1,agg:=false,kind:=.func,zero := [.val .nilFunc],eqs := [] },
 some { size:=2,agg:=true,kind:=.struct [(0,1,false),(1,1,false)],zero := [.val .nilFunc, .val .nilFunc],eqs := [] },
 some { size:=2,agg:=true,kind:=.struct [(0,1,false),(1,1,false)],zero := [.val .nilFunc, .val .nilFunc],eqs := [] },
 some { size:=1,agg:=false,kind:=.func,zero := [.val .nilFunc],eqs := [] },
 some { size:=1,agg:=false,kind:=.func,zero := [.val .nilFunc],eqs := [] },
 some { size:=1,agg:=false,kind:=.func,zero := [.val .nilFunc],eqs := [] },
 some { size:=1,agg:=false,kind:=.func,zero := [.val .nilFunc],eqs := [] },
 some { size:=1,agg:=false,kind:=.func,zero := [.val .nilFunc],eqs := [] },
 some { size:=1,agg:=false,kind:=.func,zero := [.val .nilFunc],eqs := [] },
 some { size:=1,agg:=false,kind:=.func,zero := [.val .nilFunc],eqs := [] },
 some { size:=1,agg:=false,kind:=.func,zero := [.val .nilFunc],eqs := [] },
 some { size:=1,agg:=false,kind:=.func,zero := [.val .nilFunc],eqs := [] },
 some { size:=1,agg:=false,kind:=.int .i64,zero := [.val (.int .i64 0)],eqs := [] },
 none,
 some { size:=1,agg:=false,kind:=.func,zero := [.val .nilFunc],eqs := [] },
 some { size:=1,agg:=false,kind:=.func,zero := [.val .nilFunc],eqs := [] },
 some { size:=1,agg:=false,kind:=.func,zero := [.val .nilFunc],eqs := [] },
 some { size:=1,agg:=false,kind:=.func,zero := [.val .nilFunc],eqs := [] },
 some { size:=1,agg:=false,kind:=.func,zero := [.val .nilFunc],eqs := [] },
 some { size:=1,agg:=false,kind:=.func,zero := [.val .nilFunc],eqs := [] },
 some { size:=1,agg:=false,kind:=.func,zero := [.val .nilFunc],eqs := [] },
 some { size:=1,agg:=false,kind:=.func,zero := [.val .nilFunc],eqs := [] },
 some { size:=1,agg:=false,kind:=.int .u64,zero := [.val (.int .u64 0)],eqs := [] },
 some { size:=1,agg:=false,kind:=.func,zero := [.val .nilFunc],eqs := [] },
 some { size:=1,agg:=false,kind:=.func,zero := [.val .nilFunc],eqs := [] },
 some { size:=1,agg:=false,kind:=.func,zero := [.val .nilFunc],eqs := [] },
 some { size:=1,agg:=false,kind:=.ptr,zero := [.val (.pointer none)],eqs := [] },
 some { size:=1,agg:=false,kind:=.func,zero := [.val .nilFunc],eqs := [] },
 some { size:=1,agg:=false,kind:=.ptr,zero := [.val (.pointer none)],eqs := [] },
 none,
 some { size:=1,agg:=false,kind:=.func,zero := [.val .nilFunc],eqs := [] },
 some { size:=1,agg:=false,kind:=.func,zero := [.val .nilFunc],eqs := [] },
 some { size:=4,agg:=true,kind:=.struct [(0,1,false),(1,1,false),(2,1,false),(3,1,false)],zero := [.val (.pointer none), .val (.pointer none), .val (.pointer none), .val (.string { data:={ toList := [] } })],eqs := [] },
 some { size:=4,agg:=true,kind:=.struct [(0,1,false),(1,1,false),(2,1,false),(3,1,false)],zero := [.val (.pointer none), .val (.pointer none), .val (.pointer none), .val (.string { data:={ toList := [] } })],eqs := [] },
 some { size:=0,agg:=true,kind:=.arr 0 16 1 false,zero := [],eqs := [] },
 some { size:=0,agg:=true,kind:=.struct [(0,0,true)],zero := [],eqs := [] },
 some { size:=0,agg:=true,kind:=.struct [(0,0,true)],zero := [],eqs := [] },
 some { size:=1,agg:=false,kind:=.int .u8,zero := [.val (.int .u8 0)],eqs := [] },
 some { size:=1,agg:=false,kind:=.int .u8,zero := [.val (.int .u8 0)],eqs := [] },
 some { size:=1,agg:=false,kind:=.func,zero := [.val .nilFunc],eqs := [] },
 some { size:=1,agg:=false,kind:=.ptr,zero := [.val (.pointer none)],eqs := [] },
 some { size:=1,agg:=false,kind:=.int .i32,zero := [.val (.int .i32 0)],eqs := [] },
 some { size:=1,agg:=false,kind:=.int .i32,zero := [.val (.int .i32 0)],eqs := [] },
 some { size:=11,agg:=true,kind:=.struct [(0,1,false),(1,1,false),(2,1,false),(3,1,false),(4,1,false),(5,1,false),(6,1,false),(7,1,false),(8,1,false),(9,1,false),(10,1,false)],zero := [.val (.int .u64 0), .val (.int .u64 0), .val (.int .u32 0), .val (.int .u8 0), .val (.int .u8 0), .val (.int .u8 0), .val (.int .u8 0), .val .nilFunc, .val (.pointer none), .val (.int .i32 0), .val (.int .i32 0)],eqs := [] },
 some { size:=11,agg:=true,kind:=.struct [(0,1,false),(1,1,false),(2,1,false),(3,1,false),(4,1,false),(5,1,false),(6,1,false),(7,1,false),(8,1,false),(9,1,false),(10,1,false)],zero := [.val (.int .u64 0), .val (.int .u64 0), .val (.int .u32 0), .val (.int .u8 0), .val (.int .u8 0), .val (.int .u8 0), .val (.int .u8 0), .val .nilFunc, .val (.pointer none), .val (.int .i32 0), .val (.int .i32 0)],eqs := [] },
 some { size:=1,agg:=false,kind:=.other,zero := [.val (.pointer none)],eqs := [] }]
theorem typeTab_ok:typeTab=tabOf Tryz.prog:=by kernel_rfl
end
end Go.Proofs.YtoamkpgaaanafaaGreat
