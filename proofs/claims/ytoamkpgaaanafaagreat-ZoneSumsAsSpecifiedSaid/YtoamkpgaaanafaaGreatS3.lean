/- Merged: PwF2, PwG, PwH, PwR. -/
import Derived.WideLaws
import Derived.Lib.AppendStr
import Derived.Test.YtoamkpgaaanafaaGreatS2
/- Pure states: more operations that write nothing: checks for nil, maps, the greatest of numbers. -/
namespace Go.Proofs.YtoamkpgaaanafaaGreat
set_option linter.unusedSimpArgs false
set_option linter.unusedVariables false
set_option linter.unnecessarySimpa false
open Go.RowKit
def isPtrK:TD→Bool
 | .ptr | .parr .. => true
 |_=>false
def pnil (td:TD):PV→Option Bool
 | .val (.pointer none)=>if isPtrK td then some true else none
 | .ptr _ _=>if isPtrK td then some false else none
 | .ep _ _=>if isPtrK td then some false else none
 | .val (.map none)=>match td with
  | .map _ _=>some true
  |_=>none
 | .mref _=>match td with
  | .map _ _=>some false
  |_=>none
 | .val .nilFunc=>match td with
  | .func=>some true
  |_=>none
 | .fn _ _=>match td with
  | .func=>some false
  |_=>none
 | .nilsl=>match td with
  | .slice .. => some true
  |_=>none
 | .sl (_+1) _ _ _=>match td with
  | .slice .. => some false
  |_=>none
 | .msl _ _ (_+1) _=>match td with
  | .slice .. => some false
  |_=>none
 |_=>none
def nilFit:TD→PV→Bool
 | .slice .., .nilsl=>true
 | .map .., .val (.map none)=>true
 | .func, .val .nilFunc=>true
 | .ptr, .val (.pointer none)=>true
 | .parr .., .val (.pointer none)=>true
 |_,_=>false
def pcmpN (td:TD) (x y:PV):Option Bool:=if nilFit td y then pnil td x else if nilFit td x then pnil td y else none
def skT:TD→Option SK
 | .int _=>some .int
 | .bool=>some .bool
 | .str=>some .str
 |_=>none
def keyOK:TD→Value→Bool
 | .int k, .int k' _=>decide (k=k')
 | .bool, .bool _=>true
 | .str, .string _=>true
 |_,_=>false
def mfind (k:SK) (kv:Value):List (Nat×PV×PV)→Nat→Option (Option Nat)
 | [],_=>some none
 |(_, .val k',_) :: es,i=>match veq k kv k' with
  |some true=>some (some i)
  |some false=>mfind k kv es (i+1)
  |none=>none
 |_ :: _,_=>none
def zeroPV (x:TyI):Option PV:=if x.agg then some (.agg x.zero) else x.zero.head?
def mget (ki ei:TyI) (es:List (Nat×PV×PV)) (kv:Value):Option (PV×Bool):=
 if keyOK ki.kind kv then match skT ki.kind with
  |some k=>match mfind k kv es 0 with
   |some (some j)=>match es[j]? with
    |some (_,_,c)=>some (c.bare,true)
    |none=>none
   |some none=>(zeroPV ei).map fun z=>(z.bare,false)
   |none=>none
  |none=>none
 else none
def pents (m:Nat→Option PMap):PV→Option (List (Nat×PV×PV))
 | .mref id=>match m id with
  |some (.map es _)=>some es
  |_=>none
 | .val (.map none)=>some []
 |_=>none
def plookup (T:Tab) (m:Nat→Option PMap) (td:TD) (x:PV) (k:PV):Option (PV×Bool):=
 match td,k with
 | .map kt et, .val kv=>match T.at kt,T.at et,pents m x with
  |some ki,some ei,some es=>mget ki ei es kv
  |_,_,_=>none
 |_,_=>none
def pentryAt (m:Nat→Option PMap):PV→Option (PV×PV)
 | .ptr id 0=>match m id with
  |some (.iter mid _ seen last)=>match m mid with
   |some (.map es clock)=>if clock=last then match seen.getLast? with
    |some s=>(es.find? fun e=>e.1 == s).map fun e=>(e.2.1.bare,e.2.2.bare)
    |none=>none else none
   |_=>none
  |_=>none
 |_=>none
def pmaxL (mx:Bool):IntKind→Int→List PV→Option PV
 |k,n,[]=>some (.val (.int k n))
 |k,n, .val (.int _ y) :: r=>pmaxL mx k (if mx then (if y > n then y else n) else (if y < n then y else n)) r
 |_,_,_=>none
def pmax (mx:Bool):List PV→Option PV
 | .val (.int k n) :: r=>pmaxL mx k n r
 |_=>none
def pvalX (T:Tab) (σ:PS):Op→Option PV
 | .nilCheck x=>match pev σ x with
  | .ptr id off=>some (.ptr id off)
  | .ep cs off=>some (.ep cs off)
  | .fn f cs=>some (.fn f cs)
  |_=>none
 | .binOp op t x y _=>match T.at t with
  |some ti=>match op with
   | .eql=>(pcmpN ti.kind (pev σ x) (pev σ y)).map fun b=>.val (.bool b)
   | .neq=>(pcmpN ti.kind (pev σ x) (pev σ y)).map fun b=>.val (.bool !b)
   |_=>none
  |none=>none
 | .lookup t x k ok=>match T.at t with
  |some ti=>match plookup T σ.m ti.kind (pev σ x) (pev σ k) with
   |some (c,b)=>some (if ok then .tup [c, .val (.bool b)] else c)
   |none=>none
  |none=>none
 | .entry it=>match pentryAt σ.m (pev σ it) with
  |some (k,c)=>some (.tup [k,c])
  |none=>none
 | .sliceToArrayPointer t x=>match T.at t with
  |some ti=>match ti.kind with
   | .arr n _ _ _=>match pev σ x with
    | .msl id off m _=>if n≤m∧0 < m then some (.ptr id off) else none
    | .sl m _ cs _=>if n≤m∧0 < m then some (.ep cs 0) else none
    |_=>none
   |_=>none
  |none=>none
 | .call c=>match c.callee with
  | .builtin .len=>match c.args.toList,c.argTypes.toList with
   | [x],[t]=>match T.at t with
    |some ti=>match ti.kind with
     | .map _ _=>(pents σ.m (pev σ x)).map fun es=>.val (.int .i64 es.length)
     |_=>none
    |none=>none
   |_,_=>none
  | .builtin .max=>pmax true (c.args.toList.map (pev σ))
  | .builtin .min=>pmax false (c.args.toList.map (pev σ))
  |_=>none
 |_=>none
def pvalA (T:Tab) (σ:PS) (op:Op):Option PV:=match pval T σ op with
 |some p=>some p
 |none=>pvalX T σ op
section
variable {Φ0:Ent} {W:World} {M:Nat} {Φ:Imm} {μ:Nat→Option Nat} {ω:Nat→Option Who} {σ:PS} {a:Act} {w:World} {P:Program} {T:Tab}
theorem isPtrK_spec {t:TypeId} {ti:TyI} (ht:tyI P t=some ti) (h:isPtrK ti.kind=true):∃e,P.underlying t=some (.pointer e):=by
 cases hk:ti.kind with
 |ptr=>exact kind_ptr ht hk
 |parr n e k=>obtain ⟨t',hu,-⟩:=parr_get ht hk;exact ⟨t',hu⟩
 |_=>rw [hk] at h;simp [isPtrK] at h
theorem nilFit_map {k e:TypeId} {y:PV} (h:nilFit (.map k e) y=true):y = .val (.map none):=by
 unfold nilFit at h;split at h<;>first|rfl|simp_all
theorem nilFit_func {y:PV} (h:nilFit .func y=true):y = .val .nilFunc:=by
 unfold nilFit at h;split at h<;>first|rfl|simp_all
theorem nilFit_slice {e k b:Nat} {z:List PV} {y:PV} (h:nilFit (.slice e k b z) y=true):y = .nilsl:=by
 unfold nilFit at h;split at h<;>first|rfl|simp_all
def noGrd:Value→Bool
 | .pointer _ | .map _ | .func .. | .nilFunc | .slice .. => true
 |_=>false
theorem eqGuard_no {v n:Value} (h:noGrd v=true) (op:BinOp) (t:TypeId) (a b:Operand):(eqGuard op t a b v n).run P w = .ok () w∧(eqGuard op t a b n v).run P w = .ok () w:=by
 constructor
 ·cases v<;>first|(cases h;done)|(cases op<;>rfl)
 ·cases n<;>first|(cases op<;>rfl)|(cases v<;>first|(cases h;done)|(cases op<;>rfl))
theorem binOp_no {v n:Value} (h:noGrd v=true) (t:TypeId):(binOp .eql t v n=do pure (.bool (←Op.equal t v n)))∧(binOp .eql t n v=do pure (.bool (←Op.equal t n v)))∧(binOp .neq t v n=do pure (.bool (!(←Op.equal t v n))))∧(binOp .neq t n v=do pure (.bool (!(←Op.equal t n v)))):=by
 refine ⟨?_,?_,?_,?_⟩
 ·cases v<;>first|(cases h;done)|(cases n<;>rfl)
 ·cases v<;>first|(cases h;done)|(cases n<;>rfl)
 ·cases v<;>first|(cases h;done)|(cases n<;>rfl)
 ·cases v<;>first|(cases h;done)|(cases n<;>rfl)
set_option maxHeartbeats 4000000 in
theorem pnil_sound {t:TypeId} {ti:TyI} (ht:tyI P t=some ti) {x:PV} {v n:Value} {y:PV} (hx:Rep Φ μ x v) (hy:Rep Φ μ y n) {b:Bool} (h:pnil ti.kind x=some b) (hfit:nilFit ti.kind y=true) (d:Nat) :
  (Op.equalIn (d+1) t v n).run P w = .ok b w∧(Op.equalIn (d+1) t n v).run P w = .ok b w∧noGrd v=true:=by
 have ptr:isPtrK ti.kind=true→n = .pointer none∧∃e,P.underlying t=some (.pointer e):=by
  intro hk
  refine ⟨?_,isPtrK_spec ht hk⟩
  unfold nilFit at hfit
  split at hfit
  ·rename_i e;rw [e] at hk;cases hk
  ·rename_i e;rw [e] at hk;cases hk
  ·rename_i e;rw [e] at hk;cases hk
  ·exact hy.val_inv.1
  ·exact hy.val_inv.1
  ·cases hfit
 unfold pnil at h
 split at h
 ·split at h
  ·rename_i hk
   cases h
   obtain ⟨rfl,e,hu⟩:=ptr hk
   obtain ⟨rfl,-⟩:=hx.val_inv
   refine ⟨by simp [Op.equalIn,run_underlying hu],by simp [Op.equalIn,run_underlying hu],rfl⟩
  ·cases h
 ·split at h
  ·rename_i hk
   cases h
   obtain ⟨rfl,e,hu⟩:=ptr hk
   obtain ⟨g,-,rfl⟩:=hx.ptr_inv
   refine ⟨by simp [Op.equalIn,run_underlying hu],by simp [Op.equalIn,run_underlying hu],rfl⟩
  ·cases h
 ·split at h
  ·rename_i hk
   cases h
   obtain ⟨rfl,e,hu⟩:=ptr hk
   obtain ⟨_,_,_,rfl,-⟩:=hx.ep_inv
   refine ⟨by simp [Op.equalIn,run_underlying hu],by simp [Op.equalIn,run_underlying hu],rfl⟩
  ·cases h
 ·split at h
  ·rename_i k e hk
   cases h
   rw [hk] at hfit
   obtain rfl:=nilFit_map hfit
   obtain ⟨rfl,-⟩:=hx.val_inv
   obtain ⟨rfl,-⟩:=hy.val_inv
   have hu:=kind_map ht hk
   refine ⟨by simp [Op.equalIn,run_underlying hu],by simp [Op.equalIn,run_underlying hu],rfl⟩
  ·cases h
 ·split at h
  ·rename_i k e hk
   cases h
   rw [hk] at hfit
   obtain rfl:=nilFit_map hfit
   obtain ⟨g,-,rfl⟩:=hx.mref_inv
   obtain ⟨rfl,-⟩:=hy.val_inv
   have hu:=kind_map ht hk
   refine ⟨by simp [Op.equalIn,run_underlying hu],by simp [Op.equalIn,run_underlying hu],rfl⟩
  ·cases h
 ·split at h
  ·rename_i hk
   cases h
   rw [hk] at hfit
   obtain rfl:=nilFit_func hfit
   obtain ⟨rfl,-⟩:=hx.val_inv
   obtain ⟨rfl,-⟩:=hy.val_inv
   obtain ⟨p,r,vv,hu⟩:=kind_func ht hk
   refine ⟨by simp [Op.equalIn,run_underlying hu],by simp [Op.equalIn,run_underlying hu],rfl⟩
  ·cases h
 ·split at h
  ·rename_i hk
   cases h
   rw [hk] at hfit
   obtain rfl:=nilFit_func hfit
   obtain ⟨us,hv0,-⟩:=hx.fn_inv
   obtain ⟨t1,p1,q1,e1⟩:=fnV_func _ us.toArray
   rw [e1] at hv0
   subst hv0
   obtain ⟨rfl,-⟩:=hy.val_inv
   obtain ⟨p,r,vv,hu⟩:=kind_func ht hk
   refine ⟨by simp [Op.equalIn,run_underlying hu],by simp [Op.equalIn,run_underlying hu],rfl⟩
  ·cases h
 ·split at h
  ·rename_i e k by_ zr hk
   cases h
   rw [hk] at hfit
   obtain rfl:=nilFit_slice hfit
   obtain rfl:=hx.nilsl_inv
   obtain rfl:=hy.nilsl_inv
   obtain ⟨hu,-⟩:=slice_get ht hk
   refine ⟨by simp [Op.equalIn,run_underlying hu],by simp [Op.equalIn,run_underlying hu],rfl⟩
  ·cases h
 ·rename_i m kk cs own
  split at h
  ·rename_i e k by_ zr hk
   cases h
   rw [hk] at hfit
   obtain rfl:=nilFit_slice hfit
   obtain ⟨a,b',off,cap,us,rfl,c1,c2,c3,c4,c5,c6⟩:=hx.sl_inv
   obtain rfl:=c4 (by omega)
   obtain rfl:=hy.nilsl_inv
   obtain ⟨hu,-⟩:=slice_get ht hk
   refine ⟨by simp [Op.equalIn,run_underlying hu],by simp [Op.equalIn,run_underlying hu],rfl⟩
  ·cases h
 ·rename_i id o m kk
  split at h
  ·rename_i e k by_ zr hk
   cases h
   rw [hk] at hfit
   obtain rfl:=nilFit_slice hfit
   obtain ⟨a,cap,rfl,c1,c2,c4⟩:=hx.msl_inv
   obtain ⟨g,-,rfl⟩:=c4 (by omega)
   obtain rfl:=hy.nilsl_inv
   obtain ⟨hu,-⟩:=slice_get ht hk
   refine ⟨by simp [Op.equalIn,run_underlying hu],by simp [Op.equalIn,run_underlying hu],rfl⟩
  ·cases h
 ·cases h
theorem veq_now {t:TypeId} {ki:TyI} (ht:tyI P t=some ki) {k:SK} (hk:skT ki.kind=some k) {kv:Value} (hko:keyOK ki.kind kv=true):∃dd,P.underlying t=some dd∧(∀k' b,veq k kv k' = some b→Instr.sameNow dd kv k' = some b)∧∀n e,(Instr.checkKey e (n+1) t kv).run P w = .ok () w:=by
 cases hd:ki.kind with
 |int ik=>
  have hu:=kind_int ht hd
  rw [hd] at hk hko
  cases hk
  cases kv<;>simp [keyOK] at hko
  subst hko
  refine ⟨_,hu,fun k' b h=>?_,fun n e=>?_⟩
  ·cases k' <;> simp [veq] at h
   simp [Instr.sameNow,h]
  ·simp [Instr.checkKey,run_underlying hu]
 |str=>
  have hu:=kind_str ht hd
  rw [hd] at hk hko
  cases hk
  cases kv<;>simp [keyOK] at hko
  refine ⟨_,hu,fun k' b h=>?_,fun n e=>?_⟩
  ·cases k' <;> simp [veq] at h
   simp [Instr.sameNow,h]
  ·simp [Instr.checkKey,run_underlying hu]
 |bool=>
  obtain ⟨i,d,z,h1,h2,h3,h4,-,h6⟩:=tyI_parts ht
  rw [h6] at hd
  simp only at hd
  have hd' : d = .bool:=by
   cases d with
   |bool=>rfl
   |slice e=>simp only [tdOf] at hd;split at hd<;>(try split at hd)<;>(try split at hd)<;>cases hd
   |struct fs=>simp only [tdOf] at hd;split at hd<;>cases hd
   |array n e=>simp only [tdOf] at hd;split at hd<;>cases hd
   |pointer e=>simp only [tdOf] at hd;split at hd<;>(try split at hd)<;>cases hd
   |_=>cases hd
  subst hd'
  have hd2:ki.kind = .bool:=by rw [h6];exact hd
  rw [hd2] at hk hko
  cases hk
  cases kv<;>simp [keyOK] at hko
  refine ⟨_,h2,fun k' b h=>?_,fun n e=>?_⟩
  ·cases k' <;> simp [veq] at h
   simp [Instr.sameNow,h]
  ·simp [Instr.checkKey,run_underlying h2]
 |_=>rw [hd] at hk;cases hk
def EntsR (Φ:Imm) (μ:Nat→Option Nat) (es:List (Nat×PV×PV)) (ents:Array MapEntry):Prop:=ents.size=es.length∧∀(j:Nat) s k c,es[j]? = some (s,k,c)→∃e,ents[j]? = some e∧e.born=s∧Rep Φ μ k e.key∧Rep Φ μ c e.val
theorem mfind_lt {k:SK} {kv:Value} : ∀(es:List (Nat×PV×PV)) (i j:Nat),mfind k kv es i=some (some j)→i≤j∧j < i+es.length
 | [],i,j,h=>by simp [mfind] at h
 |(s,kp,c) :: es,i,j,h=>by
  have go:mfind k kv es (i+1)=some (some j)→i≤j∧j < i+(es.length+1):=fun h=>by have:=mfind_lt es (i+1) j h;omega
  cases kp<;>simp only [mfind] at h<;>try (cases h;done)
  split at h
  ·cases h;simp
  ·simpa using go h
  ·cases h
theorem mfind_sound {dd:TypeDesc} {k:SK} {kv:Value} (hs:∀k' b,veq k kv k' = some b→Instr.sameNow dd kv k' = some b):∀(es:List (Nat×PV×PV)) (ents:List MapEntry) (i:Nat) (r:Option Nat),ents.length=es.length →
  (∀(j:Nat) s kk c,es[j]? = some (s,kk,c)→∃e,ents[j]? = some e∧e.born=s∧Rep Φ μ kk e.key∧Rep Φ μ c e.val)→mfind k kv es i=some r→match r with
   |none=>Instr.findNow dd kv ents i=some none
   |some j=>∃e,ents[j - i]? = some e∧Instr.findNow dd kv ents i=some (some (j,e.val))
 | [],ents,i,r,hl,_,h=>by
  obtain rfl:ents = []:=List.eq_nil_of_length_eq_zero (by simpa using hl)
  simp [mfind] at h;subst h
  simp [Instr.findNow]
 |(s,kp,c) :: es,[],i,r,hl,_,h=>by simp at hl
 |(s,kp,c) :: es,e :: ents,i,r,hl,hr,h=>by
  obtain ⟨e',he',-,hk,hc⟩:=hr 0 s kp c rfl
  simp at he'
  subst he'
  cases kp<;>simp only [mfind] at h<;>try (cases h;done)
  rename_i kvv
  obtain ⟨hkk,-⟩:=hk.val_inv
  split at h
  ·rename_i hv
   cases h
   refine ⟨e,by simp,?_⟩
   rw [Instr.findNow,hkk,hs _ _ hv]
  ·rename_i hv
   have ih:=mfind_sound hs es ents (i+1) r (by simpa using hl) (fun j s kk c hj=>by simpa using hr (j+1) s kk c (by simpa using hj)) h
   cases r with
   |none=>simp only at ih ⊢; rw [Instr.findNow,hkk,hs _ _ hv];exact ih
   |some j=>
    obtain ⟨e',h1,h2⟩:=ih
    have hlt:=(mfind_lt es _ _ h).1
    refine ⟨e',?_,?_⟩
    ·rw [show j - i=(j - (i+1))+1 by omega];simpa using h1
    ·rw [Instr.findNow,hkk,hs _ _ hv];exact h2
  ·cases h
theorem find_run {t:TypeId} {ki:TyI} (ht:tyI P t=some ki) {k:SK} (hk:skT ki.kind=some k) {kv:Value} (hko:keyOK ki.kind kv=true) {es:List (Nat×PV×PV)} {ents:Array MapEntry} (hE:EntsR Φ μ es ents) {r:Option Nat} (h:mfind k kv es 0=some r) :
  (∀e,(Instr.checkKey e 10000 t kv).run P w = .ok () w)∧match r with
   |none=>(Instr.findKey t kv ents.toList).run P w = .ok none w
   |some j=>∃s kk c e,es[j]? = some (s,kk,c)∧ents[j]? = some e∧e.born=s∧Rep Φ μ kk e.key∧Rep Φ μ c e.val∧kk = .val e.key∧veq k kv e.key=some true∧(Instr.findKey t kv ents.toList).run P w = .ok (some (j,e.val)) w:=by
 obtain ⟨dd,hu,hs,hck⟩:=veq_now (w:=w) ht hk hko
 refine ⟨fun e=>hck 9999 e,?_⟩
 have hm:=mfind_sound hs es ents.toList 0 r (by simpa using hE.1) (fun j s kk c hj=>by simpa using hE.2 j s kk c hj) h
 cases r with
 |none=>
  simp only at hm ⊢
  simp [Instr.findKey,run_underlying hu,hm]
 |some j=>
  obtain ⟨e,h1,h2⟩:=hm
  have hlt:=mfind_lt es _ _ h
  have hj:es[j]? = some es[j]:=by simp
  obtain ⟨e',q1,q2,q3,q4⟩:=hE.2 j es[j].1 es[j].2.1 es[j].2.2 hj
  simp only [Nat.sub_zero,Array.getElem?_toList] at h1
  rw [q1] at h1;cases h1
  have hkey:∀(es:List (Nat×PV×PV)) (i j:Nat),mfind k kv es i=some (some j)→∃s k' c,es[j - i]? = some (s, .val k',c)∧veq k kv k' = some true:=by
   intro es
   induction es with
   |nil=>intro i j h;simp [mfind] at h
   |cons x es ih=>
    intro i j h
    obtain ⟨s,kp,c⟩:=x
    cases kp<;>simp only [mfind] at h<;>try (cases h;done)
    split at h
    ·rename_i hv;cases h;exact ⟨s,_,c,by simp,hv⟩
    ·obtain ⟨s',k',c',e1,e2⟩:=ih _ _ h
     have:=(mfind_lt es _ _ h).1
     exact ⟨s',k',c',by rw [show j - i=(j - (i+1))+1 by omega];simpa using e1,e2⟩
    ·cases h
  obtain ⟨s',k',c',e1,e2⟩:=hkey es 0 j h
  rw [Nat.sub_zero,hj,Option.some.injEq] at e1
  have ek:es[j].2.1 = .val k':=by rw [e1]
  have q3':=q3
  rw [ek] at q3'
  obtain ⟨ev,-⟩:=q3'.val_inv
  refine ⟨es[j].1,es[j].2.1,es[j].2.2,e,hj,q1,q2,q3,q4,by rw [ek,ev],by rw [ev];exact e2,?_⟩
  simp [Instr.findKey,run_underlying hu,h2]
theorem zeroPV_sound {t:TypeId} {ti:TyI} (ht:tyI P t=some ti) {z:PV} (h:zeroPV ti=some z):∃v,(zeroValue t).run P w = .ok v w∧Rep Φ μ z v:=by
 obtain ⟨i,zv,h1,h3,h4,h5⟩:=tyI_agg ht
 refine ⟨zv,by simp [zeroValue,typeInfo,h1,h3],?_⟩
 simp only [zeroPV,h5] at h
 have hr:RepL Φ μ (zv.cells.toList.map pv0) zv.cells.toList:=repL_pv0 _
 cases zv with
 |agg cs=>
  rw [←h4] at h
  simp only [isAggV,if_true,Option.some.injEq] at h
  subst h
  simpa [Value.cells] using hr.agg
 |_=>
  rw [←h4] at h
  simp [isAggV,Value.cells] at h
  subst h
  exact rep_pv0 _
theorem pents_sound (h:RelG Φ0 W M Φ μ ω σ a w) {x:PV} {v:Value} (hx:Rep Φ μ x v) {es:List (Nat×PV×PV)} (hp:pents σ.m x=some es) :
  ∃ents:Array MapEntry,EntsR Φ μ es ents∧((v = .map none∧ents = #[])∨∃g clock,v = .map (some g)∧w.heap[g]? = some (.map ents clock)):=by
 unfold pents at hp
 split at hp
 ·rename_i id
  split at hp
  ·rename_i es' clock hm
   cases hp
   obtain ⟨g,hg,rfl⟩:=hx.mref_inv
   obtain ⟨g',k1,k2,k3,k4,-,ents,k5,k6,k7⟩:=h.map id _ hm
   rw [hg] at k1;cases k1
   exact ⟨ents,⟨k6,fun j s k c hj=>by obtain ⟨e,e1,e2,e3,e4,-⟩:=k7 j s k c hj;exact ⟨e,e1,e2,e3,e4⟩⟩, .inr ⟨g,clock,rfl,k5⟩⟩
  ·cases hp
 ·cases hp
  obtain ⟨rfl,-⟩:=hx.val_inv
  exact ⟨#[],⟨rfl,fun j s k c hj=>by simp at hj⟩, .inl ⟨rfl,rfl⟩⟩
 ·cases hp
theorem plookup_sound (hT:T=tabOf P) (h:RelG Φ0 W M Φ μ ω σ a w) {t:TypeId} {ti:TyI} (ht:tyI P t=some ti) {x k c:PV} {b:Bool} {v kv:Value} (hx:Rep Φ μ x v) (hk:Rep Φ μ k kv) (hp:plookup T σ.m ti.kind x k=some (c,b)) (ok:Bool) :
  ∃u,(Instr.lookup t v kv ok).run P w = .ok (if ok then .tuple #[u, .bool b] else u) w∧Rep Φ μ c u∧c.ownB=false:=by
 unfold plookup at hp
 split at hp
 case h_2=>cases hp
 rename_i kt et kv' hkind
 obtain ⟨rfl,-⟩:=hk.val_inv
 have hu:=kind_map ht hkind
 split at hp
 case h_2=>cases hp
 rename_i ki ei es hki hei hes
 obtain ⟨ents,hE,hv⟩:=pents_sound h hx hes
 have hrun:∀(o:Option (Nat×Value)) u,(∀e,(Instr.checkKey e 10000 kt kv).run P w = .ok () w)→(Instr.findKey kt kv ents.toList).run P w = .ok o w→(match o with|some (_,x)=>u=x∧b=true|none=>(zeroValue et).run P w = .ok u w∧b=false) →
   (Instr.lookup t v kv ok).run P w = .ok (if ok then .tuple #[u, .bool b] else u) w:=by
  intro o u k1 k2 k3
  rcases hv with ⟨rfl,rfl⟩|⟨g,clock,rfl,hg⟩
  ·simp only [Array.toList] at k2
   cases o with
   |none=>simp only at k3;obtain ⟨k3,rfl⟩:=k3;simp only [Instr.lookup,Sem.run_bind,run_underlying hu,Result.andThen_ok,Sem.run_pure,k1,k2,k3]
   |some o=>simp only at k3;obtain ⟨rfl,rfl⟩:=k3;simp only [Instr.lookup,Sem.run_bind,run_underlying hu,Result.andThen_ok,Sem.run_pure,k1,k2]
  ·cases o with
   |none=>simp only at k3;obtain ⟨k3,rfl⟩:=k3;simp only [Instr.lookup,Sem.run_bind,run_underlying hu,Result.andThen_ok,Sem.run_pure,(Go.run_getObj_map (P:=P) (w:=w) _ _ _ hg),k1,k2,k3]
   |some o=>simp only at k3;obtain ⟨rfl,rfl⟩:=k3;simp only [Instr.lookup,Sem.run_bind,run_underlying hu,Result.andThen_ok,Sem.run_pure,(Go.run_getObj_map (P:=P) (w:=w) _ _ _ hg),k1,k2]
 have hkt:=tab_at hT hki
 have het:=tab_at hT hei
 unfold mget at hp
 split at hp
 case isFalse=>cases hp
 rename_i hko
 split at hp
 case h_2=>cases hp
 rename_i sk hsk
 split at hp
 ·rename_i j hm
  obtain ⟨h1,s,kk,c',e,q1,q2,q3,q4,q5,q6,q7,q8⟩:=find_run (w:=w) hkt hsk hko hE hm
  rw [q1] at hp
  cases hp
  exact ⟨e.val,hrun _ _ h1 q8 ⟨rfl,rfl⟩,q5.bare,PV.bare_own _⟩
 ·rename_i hm
  obtain ⟨h1,h2⟩:=find_run (w:=w) hkt hsk hko hE hm
  obtain ⟨z,hz,hzz⟩:=Option.map_eq_some_iff.1 hp
  cases hzz
  obtain ⟨u,r1,r2⟩:=zeroPV_sound (w:=w) (Φ:=Φ) (μ:=μ) het hz
  exact ⟨u,hrun _ _ h1 h2 ⟨r1,rfl⟩,r2.bare,PV.bare_own _⟩
 ·cases hp
theorem pmaxL_sound (mx:Bool):∀(ps:List PV) (vs:List Value) (k:IntKind) (n:Int) (p:PV),RepL Φ μ ps vs→pmaxL mx k n ps=some p→∃r,(vs.foldlM (if mx then Builtin.max2 else Builtin.min2) (.int k n)).run P w = .ok r w∧Rep Φ μ p r∧p.ownB=false
 | [],vs,k,n,p,hr,h=>by
  obtain rfl:vs = []:=List.eq_nil_of_length_eq_zero (by simpa using hr.1)
  simp [pmaxL] at h;subst h
  exact ⟨.int k n,by simp, .val _ rfl,rfl⟩
 |q :: ps,[],k,n,p,hr,h=>by have:=hr.1;simp at this
 |q :: ps,v :: vs,k,n,p,hr,h=>by
  have h0:=hr.2 0 q v rfl rfl
  have ht:RepL Φ μ ps vs:=⟨by simpa using hr.1,fun j c u h1 h2=>hr.2 (j+1) c u (by simpa using h1) (by simpa using h2)⟩
  cases q with
  |val u=>
   obtain ⟨rfl,-⟩:=h0.val_inv
   cases v with
   |int k' y=>
    simp only [pmaxL] at h
    obtain ⟨r,r1,r2⟩:=pmaxL_sound mx ps vs k _ p ht h
    refine ⟨r,?_,r2⟩
    rw [List.foldlM_cons]
    cases mx
    ·simp only [Bool.false_eq_true,if_false,Sem.run_bind] at r1 ⊢
     rw [show (Builtin.min2 (.int k n) (.int k' y)).run P w = .ok (.int k (if y < n then y else n)) w by simp [Builtin.min2]]
     exact r1
    ·simp only [if_true,Sem.run_bind] at r1 ⊢
     rw [show (Builtin.max2 (.int k n) (.int k' y)).run P w = .ok (.int k (if y > n then y else n)) w by simp [Builtin.max2]]
     exact r1
   |_=>simp [pmaxL] at h
  |_=>simp [pmaxL] at h
theorem pmax_sound (mx:Bool) {ps:List PV} {vs:List Value} {p:PV} (hr:RepL Φ μ ps vs) (h:pmax mx ps=some p) (at_:Array TypeId) (ty:TypeId):∃r,(if mx then Builtin.max_ at_ ty vs.toArray else Builtin.min_ at_ ty vs.toArray).run P w = .ok r w∧Rep Φ μ p r∧p.ownB=false:=by
 unfold pmax at h
 split at h
 ·rename_i k n r
  cases vs with
  |nil=>have:=hr.1;simp at this
  |cons v vs=>
   obtain ⟨rfl,-⟩:=(hr.2 0 _ v rfl rfl).val_inv
   have ht:RepL Φ μ r vs:=⟨by simpa using hr.1,fun j c u h1 h2=>hr.2 (j+1) c u (by simpa using h1) (by simpa using h2)⟩
   obtain ⟨x,r1,r2⟩:=pmaxL_sound (P:=P) (w:=w) mx r vs k n p ht h
   refine ⟨x,?_,r2⟩
   cases mx
   ·simpa [Builtin.min_] using r1
   ·simpa [Builtin.max_] using r1
 ·cases h
theorem pcmpN_sound {t:TypeId} {ti:TyI} (ht:tyI P t=some ti) {x y:PV} {v n:Value} (hx:Rep Φ μ x v) (hy:Rep Φ μ y n) {b:Bool} (h:pcmpN ti.kind x y=some b) :
  (binOp .eql t v n).run P w = .ok (.bool b) w∧(binOp .neq t v n).run P w = .ok (.bool !b) w∧∀op a b,(eqGuard op t a b v n).run P w = .ok () w:=by
 unfold pcmpN at h
 split at h
 ·rename_i hf
  obtain ⟨h1,h2,h3⟩:=pnil_sound (w:=w) ht hx hy h hf 9999
  have h1' : (Op.equal t v n).run P w = .ok b w:=h1
  obtain ⟨k1,k2,k3,k4⟩:=binOp_no (n:=n) h3 t
  exact ⟨by rw [k1];simp [h1'],by rw [k3];simp [h1'],fun op a b=>(eqGuard_no h3 op t a b).1⟩
 ·split at h
  ·rename_i hf
   obtain ⟨h1,h2,h3⟩:=pnil_sound (w:=w) ht hy hx h hf 9999
   have h2' : (Op.equal t v n).run P w = .ok b w:=h2
   obtain ⟨k1,k2,k3,k4⟩:=binOp_no (n:=v) h3 t
   exact ⟨by rw [k2];simp [h2'],by rw [k4];simp [h2'],fun op a b=>(eqGuard_no h3 op t a b).2⟩
  ·cases h
theorem pentry_sound (h:RelG Φ0 W M Φ μ ω σ a w) {x k c:PV} {v:Value} (hx:Rep Φ μ x v) (hp:pentryAt σ.m x=some (k,c)):∃ku cu,(Instr.entry v).run P w = .ok (.tuple #[ku,cu]) w∧Rep Φ μ k ku∧Rep Φ μ c cu:=by
 unfold pentryAt at hp
 split at hp
 case h_2=>cases hp
 rename_i id
 split at hp
 case h_2=>cases hp
 rename_i mid since seen last hit
 split at hp
 case h_2=>cases hp
 rename_i es clock hmp
 split at hp
 case isFalse=>cases hp
 rename_i hcl
 subst hcl
 split at hp
 case h_2=>cases hp
 rename_i s hs
 obtain ⟨e,he,hkc⟩:=Option.map_eq_some_iff.1 hp
 cases hkc
 obtain ⟨g,hg,rfl⟩:=hx.ptr_inv
 obtain ⟨g',k1,k2,k3,k4,gm,k5,k6⟩:=h.map id _ hit
 rw [hg] at k1;cases k1
 obtain ⟨gm',m1,m2,m3,m4,-,ents,m5,m6,m7⟩:=h.map mid _ hmp
 rw [k5] at m1;cases m1
 have hit' : (getObj g).run P w = .ok (.mapIter (some gm) since seen.toArray clock) w:=by simp [getObj,Sem.run,k6]
 have hb:seen.toArray.back? = some s:=by simpa using hs
 have hfind:∃e',ents.find? (fun x=>x.born == s)=some e'∧Rep Φ μ e.2.1 e'.key∧Rep Φ μ e.2.2 e'.val:=by
  have:∀(es:List (Nat×PV×PV)) (ents:List MapEntry),ents.length=es.length→(∀(j:Nat) s k c,es[j]? = some (s,k,c)→∃e,ents[j]? = some e∧e.born=s∧Rep Φ μ k e.key∧Rep Φ μ c e.val)→es.find? (fun e=>e.1 == s)=some e→∃e',ents.find? (fun x=>x.born == s)=some e'∧Rep Φ μ e.2.1 e'.key∧Rep Φ μ e.2.2 e'.val:=by
   intro es
   induction es with
   |nil=>intro ents _ _ hh;simp at hh
   |cons x es ih=>
    intro ents hl hr hh
    cases ents with
    |nil=>simp at hl
    |cons y ents=>
     obtain ⟨e0,q1,q2,q3,q4⟩:=hr 0 x.1 x.2.1 x.2.2 rfl
     simp at q1
     subst q1
     rw [List.find?_cons] at hh ⊢
     rw [q2]
     split at hh
     ·rename_i hb
      cases hh
      exact ⟨_,rfl,q3,q4⟩
     ·rename_i hb
      exact ih ents (by simpa using hl) (fun j s k c hj=>by simpa using hr (j+1) s k c (by simpa using hj)) hh
  obtain ⟨e',r1,r2⟩:=this es ents.toList (by simpa using m6) (fun j s k c hj=>by obtain ⟨e,e1,e2,e3,e4,-⟩:=m7 j s k c hj;exact ⟨e,by simpa using e1,e2,e3,e4⟩) he
  exact ⟨e',by simpa using r1,r2⟩
 obtain ⟨e',r1,r2,r3⟩:=hfind
 refine ⟨e'.key,e'.val,?_,r2.bare,r3.bare⟩
 simp only [Instr.entry,Sem.run_bind,hit',Result.andThen_ok,hb,(Go.run_getObj_map (P:=P) (w:=w) _ _ _ m5),bne_self_eq_false,Bool.false_eq_true,if_false,r1,Sem.run_pure]
theorem pvalX_sound (hT:T=tabOf P) (h:RelG Φ0 W M Φ μ ω σ a w) (o:Oper) {p:PV} (hp:pvalX T σ o.op=some p) :
  ∃v,(execOp a.eval o).run P w = .ok (.value v) w∧Rep Φ μ p v∧p.ownB=false:=by
 obtain ⟨dst,op,ty,pos,after,guard⟩:=o
 simp only at hp
 unfold pvalX at hp
 split at hp
 ·rename_i x
  have hx:=h.ev x
  split at hp
  ·rename_i id off e
   cases hp
   rw [e] at hx
   obtain ⟨g,hg,hv⟩:=hx.ptr_inv
   exact ⟨a.eval x,by simp only [execOp,hv,Sem.run_pure],hx,rfl⟩
  ·rename_i cs off e
   cases hp
   rw [e] at hx
   obtain ⟨b,o',us,hv,-⟩:=hx.ep_inv
   exact ⟨a.eval x,by simp only [execOp,hv,Sem.run_pure],hx,rfl⟩
  ·rename_i f cs e
   cases hp
   rw [e] at hx
   obtain ⟨us,hv,-⟩:=hx.fn_inv
   obtain ⟨t1,p1,q1,e1⟩:=fnV_func f us.toArray
   rw [e1] at hv
   exact ⟨a.eval x,by simp only [execOp,hv,Sem.run_pure],hx,rfl⟩
  ·cases hp
 ·rename_i op t x y yt
  split at hp
  case h_2=>cases hp
  rename_i ti ht
  split at hp
  ·obtain ⟨b,hb,rfl⟩:=Option.map_eq_some_iff.1 hp
   obtain ⟨r1,r1',r2⟩:=pcmpN_sound (P:=P) (w:=w) (tab_at hT ht) (h.ev x) (h.ev y) hb
   refine ⟨.bool b,?_, .val _ rfl,rfl⟩
   simp only [execOp,Sem.run_bind,r2,Result.andThen_ok,r1,r1',Sem.run_pure]
  ·obtain ⟨b,hb,rfl⟩:=Option.map_eq_some_iff.1 hp
   obtain ⟨r1,r1',r2⟩:=pcmpN_sound (P:=P) (w:=w) (tab_at hT ht) (h.ev x) (h.ev y) hb
   refine ⟨.bool !b,?_, .val _ rfl,rfl⟩
   simp only [execOp,Sem.run_bind,r2,Result.andThen_ok,r1,r1',Sem.run_pure]
  ·cases hp
 ·rename_i t x k ok
  split at hp
  case h_2=>cases hp
  rename_i ti ht
  split at hp
  case h_2=>cases hp
  rename_i c b hl
  obtain ⟨u,r1,r2,r3⟩:=plookup_sound hT h (tab_at hT ht) (h.ev x) (h.ev k) hl ok
  cases ok with
  |true=>
   simp only [if_true,Option.some.injEq] at hp r1
   subst hp
   refine ⟨.tuple #[u, .bool b],by simp [execOp,r1],?_,rfl⟩
   have:=(RepL.cons r2 (RepL.cons (Rep.val (Φ:=Φ) (μ:=μ) (.bool b) rfl) RepL.nil)).tup
   simpa using this
  |false=>
   simp only [Bool.false_eq_true,if_false,Option.some.injEq] at hp r1
   subst hp
   exact ⟨u,by simp [execOp,r1],r2,r3⟩
 ·rename_i it
  split at hp
  case h_2=>cases hp
  rename_i k c he
  cases hp
  obtain ⟨ku,cu,r1,r2,r3⟩:=pentry_sound (P:=P) h (h.ev it) he
  refine ⟨.tuple #[ku,cu],by simp [execOp,r1],?_,rfl⟩
  have:=(RepL.cons r2 (RepL.cons r3 RepL.nil)).tup
  simpa using this
 ·rename_i t x
  have hx:=h.ev x
  split at hp
  case h_2=>cases hp
  rename_i ti ht
  split at hp
  case h_2=>cases hp
  rename_i n e k ag hk
  obtain ⟨hu,-⟩:=arr_get (tab_at hT ht) hk
  split at hp
  ·rename_i id off m k' ex
   split at hp
   ·rename_i hc
    cases hp
    rw [ex] at hx
    obtain ⟨ad,cap,hv,-,-,hg⟩:=hx.msl_inv
    obtain ⟨g,hg1,rfl⟩:=hg hc.2
    exact ⟨.pointer (some ⟨g,off,none⟩),by simp [execOp,Instr.arrayAt,run_underlying hu,hv,Nat.not_lt.2 hc.1], .ptr _ _ g hg1,rfl⟩
   ·cases hp
  ·rename_i m k' cs own ex
   split at hp
   ·rename_i hc
    cases hp
    rw [ex] at hx
    obtain ⟨ad,b,o',cap,us,hv,-,-,-,ha,hp1,hp2⟩:=hx.sl_inv
    rw [ha hc.2] at hv
    exact ⟨.pointer (some ⟨b,o' + 0,none⟩),by simp [execOp,Instr.arrayAt,run_underlying hu,hv,Nat.not_lt.2 hc.1], .ep cs 0 b o' us hp1 hp2,rfl⟩
   ·cases hp
  ·cases hp
 ·rename_i c
  obtain ⟨callee,args,argTypes⟩:=c
  simp only at hp
  have hargs:RepL Φ μ (args.toList.map (pev σ)) (args.toList.map a.eval):=by
   refine ⟨by simp,fun j c u h1 h2=>?_⟩
   rw [List.getElem?_map] at h1 h2
   obtain ⟨x,hx,rfl⟩:=Option.map_eq_some_iff.1 h1
   rw [hx] at h2
   simp at h2
   subst h2
   exact h.ev x
  have hae:(args.toList.map a.eval).toArray=args.map a.eval:=by rw [←Array.toList_map,Array.toArray_toList]
  split at hp
  ·split at hp
   case h_2=>cases hp
   rename_i x t ea et
   obtain rfl:args = #[x]:=by rw [←Array.toArray_toList (xs:=args),ea]
   obtain rfl:argTypes = #[t]:=by rw [←Array.toArray_toList (xs:=argTypes),et]
   split at hp
   case h_2=>cases hp
   rename_i ti ht
   split at hp
   case h_2=>cases hp
   rename_i kt et hk
   obtain ⟨es,hes,rfl⟩:=Option.map_eq_some_iff.1 hp
   obtain ⟨ents,hE,hv⟩:=pents_sound h (h.ev x) hes
   have hu:=kind_map (tab_at hT ht) hk
   refine ⟨.int .i64 es.length,?_, .val _ rfl,rfl⟩
   rcases hv with ⟨hv,rfl⟩|⟨g,clock,hv,hg⟩
   ·have h0:es.length=0:=by have:=hE.1;simpa using this.symm
    simp [execOp,resolve,invoke,builtin,Builtin.len_,run_underlying hu,hv,goInt,h0]
   ·have h0:=hE.1
    simp only [execOp,resolve,invoke,builtin,Builtin.len_,Sem.run_bind,Sem.run_pure,Result.andThen_ok,List.map_toArray,List.map_cons,List.map_nil,List.getElem?_toArray,List.getElem?_cons_zero,run_underlying hu,hv,(Go.run_getObj_map (P:=P) (w:=w) _ _ _ hg),goInt,h0]
  ·obtain ⟨r,r1,r2⟩:=pmax_sound (P:=P) (w:=w) true hargs hp argTypes ty
   refine ⟨r,?_,r2⟩
   rw [hae] at r1
   simp only [if_true] at r1
   simp only [execOp,resolve,invoke,builtin,Sem.run_bind,Sem.run_pure,Result.andThen_ok,r1]
  ·obtain ⟨r,r1,r2⟩:=pmax_sound (P:=P) (w:=w) false hargs hp argTypes ty
   refine ⟨r,?_,r2⟩
   rw [hae] at r1
   simp only [Bool.false_eq_true,if_false] at r1
   simp only [execOp,resolve,invoke,builtin,Sem.run_bind,Sem.run_pure,Result.andThen_ok,r1]
  ·cases hp
 ·cases hp
theorem pvalA_sound (hT:T=tabOf P) (h:RelG Φ0 W M Φ μ ω σ a w) (o:Oper) {p:PV} (hp:pvalA T σ o.op=some p) :
  ∃v,(execOp a.eval o).run P w = .ok (.value v) w∧Rep Φ μ p v∧p.ownB=false:=by
 unfold pvalA at hp
 split at hp
 ·rename_i q hq
  cases hp
  exact pval_sound hT h o hq
 ·exact pvalX_sound hT h o hp
end
end Go.Proofs.YtoamkpgaaanafaaGreat

/- Pure states: stores, appends, ownership. -/
namespace Go.Proofs.YtoamkpgaaanafaaGreat
set_option linter.unusedSimpArgs false
set_option linter.unusedVariables false
set_option linter.unnecessarySimpa false
open Go.RowKit
section
variable {Φ0:Ent} {W:World} {M:Nat} {Φ:Imm} {μ:Nat→Option Nat} {ω:Nat→Option Who} {σ:PS} {a:Act} {w:World} {P:Program} {T:Tab}
theorem RelG.kmu_upd (h:RelG Φ0 W M Φ μ ω σ a w) {id:Nat} {bs:List PV} (hb:σ.b id=some bs) (x:List PV):∀i g,Φ0.mu i=some g→(upd σ.b id (some x) i≠none∨σ.m i≠none)→μ i=some g:=fun i g e hi=>h.kmu i g e (by
 rcases hi with hi|hi
 ·left
  intro hn
  refine hi ?_
  have:i≠id:=by rintro rfl;rw [hb] at hn;cases hn
  simp only [upd_if,if_neg this];exact hn
 ·exact .inr hi)
theorem RelG.store (h:RelG Φ0 W M Φ μ ω σ a w) {id:Nat} {bs new:List PV} (hb:σ.b id=some bs) {off:Nat} {vs:List Value} (hn:CellsR Φ μ new vs) (hle:off+new.length≤bs.length) {g:Nat} (hg:μ id=some g) :
  ∃w',(storeCells ⟨g,off,none⟩ vs).run P w = .ok () w'∧RelG Φ0 W M Φ μ ω { σ with b:=upd σ.b id (some (splice bs off new)) } a w':=by
 obtain ⟨g',cur,Ty,h1,h2,h3,h4,h5,h6,h7⟩:=h.box id bs hb
 rw [hg] at h1;cases h1
 have hl:=hn.1.1
 have hcl:bs.length≤cur.toList.length:=by simpa using h6
 have hrun:=run_storeCells_at P g off Ty vs 0 cur w h2 (by omega) hn.2.1
 rw [Nat.add_zero] at hrun
 refine ⟨_,hrun,?_⟩
 have hlt:g < w.heap.size:=(Array.getElem?_eq_some_iff.1 h2).1
 have hmo:∀i X,σ.m i=some X→∀q,OfId i q→q≠.box id:=by
  rintro i X e q hq rfl
  rcases hq with hq|⟨j,hq⟩
  ·cases hq
   obtain ⟨g',k1,-,-,-,k5⟩:=h.map _ X e
   rw [hg] at k1;cases k1
   cases X with
   |map es clock=>obtain ⟨-,ents,k6,-⟩:=k5;rw [h2] at k6;cases k6
   |iter mid since seen last=>obtain ⟨gm,-,k6⟩:=k5;rw [h2] at k6;cases k6
  ·cases hq
 have hkeep:∀q:Who,q≠.box id→∀g',ω g' = some q→(w.setRow g (cur.toList.take off ++ vs ++ cur.toList.drop (off+vs.length)).toArray).heap[g']? = w.heap[g']?∧(∀j,Φ g' j=Φ g' j)∧ω g' = some q:=by
  intro q hq g' e
  refine ⟨setRow_other w g g' _ ?_,fun _=>rfl,e⟩
  rintro rfl
  rw [h4] at e;cases e;exact hq rfl
 refine ⟨?_,h.defers,h.size,?_,h.old,h.tmps,fun t n k cs E e=>(h.own t n k cs E e).step (hkeep _ (by simp)),?_,?_,fun g' p e=>by simpa using h.lt g' p e,h.gmu,h.kmu_upd hb _,h.ext,fun i X e=>(h.map i X e).step (fun _ _ _ e=>e) (fun _ _ e=>e) (fun q hq g' e' => hkeep q (hmo i X e q hq) g' e'),h.mine⟩
 ·exact h.below.trans ⟨rfl,rfl,rfl,by simp,fun k hk=>setRow_other w g k _ (h3.ne hk)⟩
 ·intro b o u e
  have hbg:b≠g:=by rintro rfl;rw [h5] at e;cases e
  have:=h.imm b o u e
  simp only [World.cell?] at this ⊢
  rw [setRow_other w g b _ hbg];exact this
 ·intro i bs' e
  by_cases hi:i=id
  ·subst hi
   simp only [upd_if,if_true] at e
   cases e
   have hbl:(splice bs off new).length=bs.length:=by simp only [splice,List.length_append,List.length_take,List.length_drop];omega
   refine ⟨g,_,Ty,hg,setRow_heap w g cur _ Ty _ h2,h3,h4,h5,by rw [hbl];simp only [List.size_toArray,List.length_append,List.length_take,List.length_drop,Array.length_toList];omega,?_⟩
   intro j c hc
   unfold splice at hc
   by_cases j1:j < off
   ·rw [List.append_assoc,List.getElem?_append_left (by rw [List.length_take];omega),List.getElem?_take,if_pos j1] at hc
    obtain ⟨u,r1,r2,r3,r4⟩:=h7 j c hc
    refine ⟨u,?_,r2,r3,fun n k cs E e=>(r4 n k cs E e).step (hkeep _ (by simp))⟩
    rw [List.getElem?_toArray,List.append_assoc,List.getElem?_append_left (by rw [List.length_take];omega),List.getElem?_take,if_pos j1]
    simpa using r1
   ·by_cases j2:j < off+new.length
    ·rw [List.append_assoc,List.getElem?_append_right (by rw [List.length_take];omega),List.length_take,List.getElem?_append_left (by omega),show min off bs.length=off by omega] at hc
     obtain ⟨u,hu,hru⟩:=hn.1.get hc
     refine ⟨u,?_,hn.2.1 u (mem_of_get hu),hru,fun n k cs E e=>?_⟩
     ·rw [List.getElem?_toArray,List.append_assoc,List.getElem?_append_right (by rw [List.length_take];omega),List.length_take,List.getElem?_append_left (by omega),show min off cur.toList.length=off by omega]
      exact hu
     ·have:=hn.2.2 c (mem_of_get hc)
      rw [e] at this;simp [PV.ownB] at this
    ·rw [List.getElem?_append_right (by rw [List.length_append,List.length_take];omega),List.length_append,List.length_take,List.getElem?_drop,show off+new.length+(j - (min off bs.length+new.length))=j by omega] at hc
     obtain ⟨u,r1,r2,r3,r4⟩:=h7 j c hc
     refine ⟨u,?_,r2,r3,fun n k cs E e=>(r4 n k cs E e).step (hkeep _ (by simp))⟩
     rw [List.getElem?_toArray,List.getElem?_append_right (by rw [List.length_append,List.length_take];omega),List.length_append,List.length_take,List.getElem?_drop,show off+vs.length+(j - (min off cur.toList.length+vs.length))=j by omega]
     simpa using r1
  ·simp only [upd_if,if_neg hi] at e
   obtain ⟨g2,cur2,T2,k1,k2,k3,k4,k5,k6,k7⟩:=h.box i bs' e
   have hne:(Who.box i)≠.box id:=by simp [hi]
   refine ⟨g2,cur2,T2,k1,by rw [(hkeep _ hne g2 k4).1];exact k2,k3,k4,k5,k6,fun j c hc=>?_⟩
   obtain ⟨u,r1,r2,r3,r4⟩:=k7 j c hc
   exact ⟨u,r1,r2,r3,fun n k cs E e=>(r4 n k cs E e).step (hkeep _ (by simp))⟩
 ·intro i e em
  by_cases hi:i=id
  ·subst hi;simp [upd_if] at e
  ·simp only [upd_if,if_neg hi] at e;exact h.gone i e em
theorem RelG.moveOwn (h:RelG Φ0 W M Φ μ ω σ a w) {s d:Nat} (hd:d < M) {n k:Nat} {cs:List PV} {E:TypeId} (hs:σ.t s = .sl n k cs (some E)) :
  ∃ω',RelG Φ0 W M Φ μ ω' { σ with t:=upd (upd σ.t s (σ.t s).bare) d (σ.t s) } (a.put (some d) (a.tmps.getD s undef)) w:=by
 have hd' : d < a.tmps.size:=by rw [h.size];exact hd
 have ho:=h.own s n k cs E hs
 have hr:=h.tmps s
 have key:∀ω' : Nat→Option Who,(∀g p,ω g=some p→p≠.tmp s→ω' g=some p)→(∀g p,ω' g=some p→g < w.heap.size∧Mine Φ0 W g)→OwnAt (Mine Φ0 W) Φ ω' w (.tmp d) n k E (a.tmps.getD s undef) →
   RelG Φ0 W M Φ μ ω' { σ with t:=upd (upd σ.t s (σ.t s).bare) d (σ.t s) } (a.put (some d) (a.tmps.getD s undef)) w:=by
  intro ω' hω hlt ho'
  have hstep:∀q n k E v,q≠.tmp s→OwnAt (Mine Φ0 W) Φ ω w q n k E v→OwnAt (Mine Φ0 W) Φ ω' w q n k E v:=fun q n k E v hq hh=>hh.step (fun g e=>⟨rfl,fun _=>rfl,hω g q e hq⟩)
  refine ⟨h.below,h.defers,by simp [Act.put,h.size],h.imm,h.old,fun t=>?_,fun t n' k' cs' E' e=>?_,fun id bs e=>?_,h.gone,fun g p e=>(hlt g p e).1,h.gmu,h.kmu,h.ext,fun id X e=>(h.map id X e).step (fun _ _ _ e=>e) (fun _ _ e=>e) (fun q hq g e=>⟨rfl,fun _=>rfl,hω g q e (by rintro rfl;rcases hq with hq|⟨j,hq⟩<;>cases hq)⟩),fun g p e=>(hlt g p e).2⟩
  ·rw [getD_put _ _ _ _ hd']
   simp only [upd_if]
   by_cases ht:t=d
   ·simp only [if_pos ht];exact hr
   ·simp only [if_neg ht]
    by_cases hts:t=s
    ·subst hts;simp only [if_true];exact hr.bare
    ·simp only [if_neg hts];exact h.tmps t
  ·rw [getD_put _ _ _ _ hd']
   simp only [upd_if] at e
   by_cases ht:t=d
   ·simp only [if_pos ht] at e ⊢
    rw [hs] at e;cases e
    subst ht;exact ho'
   ·simp only [if_neg ht] at e ⊢
    by_cases hts:t=s
    ·simp only [if_pos hts] at e
     have:=PV.bare_own (σ.t s);rw [e] at this;simp [PV.ownB] at this
    ·simp only [if_neg hts] at e
     exact hstep _ _ _ _ _ (by simp [hts]) (h.own t n' k' cs' E' e)
  ·obtain ⟨g,cur,Ty,h1,h2,h3,h4,h5,h6,h7⟩:=h.box id bs e
   refine ⟨g,cur,Ty,h1,h2,h3,hω g _ h4 (by simp),h5,h6,fun j c hc=>?_⟩
   obtain ⟨u,r1,r2,r3,r4⟩:=h7 j c hc
   exact ⟨u,r1,r2,r3,fun n k cs E e=>hstep _ _ _ _ _ (by simp) (r4 n k cs E e)⟩
 rcases ho with ⟨ho,hn⟩|⟨g,cap,cur,h1,h2,h3,h4,h5,h6,h7,h8⟩|ho
 rotate_left 2
 ·exact ⟨ω,key ω (fun g p e _=>e) (fun g p e=>⟨h.lt g p e,h.mine g p e⟩) (.inr (.inr ho))⟩
 ·exact ⟨ω,key ω (fun g p e _=>e) (fun g p e=>⟨h.lt g p e,h.mine g p e⟩) (.inl ⟨ho,hn⟩)⟩
 ·refine ⟨upd ω g (some (.tmp d)),key _ ?_ ?_ (.inr (.inl ⟨g,cap,cur,h1,h2,h3,h4,h5,h6,by simp [upd_if],h8⟩))⟩
  ·intro g' p e hp
   simp only [upd_if]
   rw [if_neg (by rintro rfl;rw [h7] at e;cases e;exact hp rfl)]
   exact e
  ·intro g' p e
   simp only [upd_if] at e
   split at e
   ·subst g'; exact ⟨(Array.getElem?_eq_some_iff.1 h3).1,h2⟩
   ·exact ⟨h.lt g' p e,h.mine g' p e⟩
end
end Go.Proofs.YtoamkpgaaanafaaGreat

/- Pure states: new slices of one's own, appends. -/
namespace Go.Proofs.YtoamkpgaaanafaaGreat
set_option linter.unusedSimpArgs false
set_option linter.unusedVariables false
set_option linter.unnecessarySimpa false
open Go.RowKit
section
variable {Φ0:Ent} {W:World} {M:Nat} {Φ:Imm} {μ:Nat→Option Nat} {ω:Nat→Option Who} {σ:PS} {a:Act} {w:World} {P:Program} {T:Tab}
theorem RelG.newOwn (h:RelG Φ0 W M Φ μ ω σ a w) {d:Nat} (hd:d < M) {N k cap:Nat} {L:List PV} {cur:Array Value} {e:TypeId} (hL:L.length=N * k) (hr:RepL Φ μ L (cur.toList.take (N * k))) (hN:N≤cap) (hcap:cap≤maxLen) (hcur:cur.size=cap * k) (hE:e < 1000000) :
  ∃Φ' ω',RelG Φ0 W M Φ' μ ω' (σ.put d (.sl N k L (some e))) (a.put (some d) (.slice (some ⟨w.heap.size,0,none⟩) N cap)) (w.alloc (.cells cur e))∧(∀b o u,Φ b o=some u→Φ' b o=some u):=by
 have hW:=h.below.size
 have hd' : d < a.tmps.size:=by rw [h.size];exact hd
 have h1:=h.row (cur.toList.take (N * k)).toArray e
 -- the same memory,but for the spare cells
 let Φ' : Imm:=immRow Φ w.heap.size (cur.toList.take (N * k)).toArray
 have hsub:∀b o u,Φ b o=some u→Φ' b o=some u:=by
  intro b o u e;show immRow _ _ _ b o=_;unfold immRow;rw [if_neg (by have:=h.fresh e;omega)];exact e
 have hrow:∀j,Φ' w.heap.size j=(cur.toList.take (N * k))[j]?:=by intro j;show immRow _ _ _ _ _=_;simp [immRow]
 have h2:RelG Φ0 W M Φ' μ ω σ a (w.alloc (.cells cur e)):=by
  refine h.grow (h.below.alloc _) ?_ ?_ hsub ?_ (by simp)
  ·intro b o u hu
   by_cases hb:b=w.heap.size
   ·subst hb
    rw [hrow,List.getElem?_take] at hu
    rw [cell_alloc_new]
    split at hu
    ·simpa using hu
    ·cases hu
   ·have hu' : Φ b o=some u:=by
     have:Φ' b o=Φ b o:=by show immRow _ _ _ b o=_;simp [immRow,hb]
     rw [←this];exact hu
    rw [cell_alloc_old _ _ _ _ (h.fresh hu')];exact h.imm b o u hu'
  ·intro b o hb;show immRow _ _ _ b o=_;unfold immRow;rw [if_neg (by have:=hb.1;omega)]
  ·intro g p hg
   have:=h.lt g p hg
   exact ⟨Below.heap_alloc _ _ _ this,fun j=>by show immRow _ _ _ g j=_;unfold immRow;rw [if_neg (by omega)]⟩
 refine ⟨Φ',upd ω w.heap.size (some (.tmp d)),?_,hsub⟩
 have hω:∀g p,ω g=some p→upd ω w.heap.size (some (.tmp d)) g=some p:=by
  intro g p e
  simp only [upd_if];rw [if_neg (by have:=h.lt g p e;omega)];exact e
 have hstep:∀q n k E v,OwnAt (Mine Φ0 W) Φ' ω (w.alloc (.cells cur e)) q n k E v→OwnAt (Mine Φ0 W) Φ' (upd ω w.heap.size (some (.tmp d))) (w.alloc (.cells cur e)) q n k E v:=fun q n k E v hh=>hh.step (fun g e=>⟨rfl,fun _=>rfl,hω g q e⟩)
 refine ⟨h2.below,h2.defers,by simp [Act.put,h.size],h2.imm,h2.old,fun t=>?_,fun t n' k' cs' E' et=>?_,fun id bs eb=>?_,h2.gone,?_,h2.gmu,h2.kmu,h2.ext,fun id X e=>(h2.map id X e).step (fun _ _ _ e=>e) (fun _ _ e=>e) (fun q _ g e=>⟨rfl,fun _=>rfl,hω g q e⟩),fun g p e=>?_⟩
 ·rw [getD_put _ _ _ _ hd']
  simp only [PS.put,upd_if]
  by_cases ht:t=d
  ·simp only [if_pos ht]
   refine .sl N k L _ w.heap.size 0 cap (fun j=>(cur.toList.take (N * k)).getD j undef) hL hN hcap (fun j hj=>?_) (fun j c hc=>?_)
   ·rw [Nat.zero_add,hrow]
    have:j < (cur.toList.take (N * k)).length:=by rw [hr.1];exact hj
    rw [List.getD_eq_getElem?_getD,List.getElem?_eq_getElem this];rfl
   ·exact (hr.mono hsub (fun _ _ e=>e)).us j c hc
  ·simp only [if_neg ht];exact h2.tmps t
 ·rw [getD_put _ _ _ _ hd']
  simp only [PS.put,upd_if] at et
  by_cases ht:t=d
  ·simp only [if_pos ht] at et ⊢
   cases et
   subst ht
   refine .inr (.inl ⟨w.heap.size,cap,cur,rfl, .inl hW,heap_alloc_new w _,hN,hcap,hcur,by simp [upd_if],hE,fun j hj=>?_⟩)
   rw [hrow,List.getElem?_eq_none (by rw [List.length_take];omega)]
  ·simp only [if_neg ht] at et ⊢
   exact hstep _ _ _ _ _ (h2.own t n' k' cs' E' et)
 ·obtain ⟨g,cur',Ty,h1,h2',h3,h4,h5,h6,h7⟩:=h2.box id bs eb
  refine ⟨g,cur',Ty,h1,h2',h3,hω g _ h4,h5,h6,fun j c hc=>?_⟩
  obtain ⟨u,r1,r2,r3,r4⟩:=h7 j c hc
  exact ⟨u,r1,r2,r3,fun n k cs E e=>hstep _ _ _ _ _ (r4 n k cs E e)⟩
 ·intro g p eg
  simp only [upd_if] at eg
  split at eg
  ·subst g;simp
  ·have:=h.lt g p eg;simp;omega
 ·simp only [upd_if] at e
  split at e
  ·subst g;exact .inl hW
  ·exact h2.mine g p e
theorem RelG.appendIn (h:RelG Φ0 W M Φ μ ω σ a w) {s d:Nat} (hd:d < M) {n m k cap g:Nat} {cs ds:List PV} {e:TypeId} {cur:Array Value} {news:List Value} (hs:σ.t s = .sl n k cs (some e))
  (hv:a.tmps.getD s undef = .slice (some ⟨g,0,none⟩) n cap) (hg:w.heap[g]? = some (.cells cur e (0,0))) (hroom:n+m≤cap) (hcur:cur.size=cap * k) (hω:ω g=some (.tmp s)) (hE:e < 1000000) (hfree:∀j,n * k≤j→Φ g j=none) (hB:Mine Φ0 W g) (hcap:cap≤maxLen)
  (hds:ds.length=m * k) (hn:RepL Φ μ ds news) :
  ∃Φ' ω',RelG Φ0 W M Φ' μ ω' { σ with t:=upd (upd σ.t s (σ.t s).bare) d (.sl (n+m) k (cs ++ ds) (some e)) } (a.put (some d) (.slice (some ⟨g,0,none⟩) (n+m) cap)) (w.setRow g (cur.toList.take (n * k) ++ news ++ cur.toList.drop (n * k+news.length)).toArray):=by
 have hd' : d < a.tmps.size:=by rw [h.size];exact hd
 have hr:=h.tmps s
 rw [hs,hv] at hr
 have hcs:cs.length=n * k:=by
  obtain ⟨_,_,_,_,_,_,_,_,h3,_⟩:=hr.sl_inv;exact h3
 have hnk:(n+m) * k≤cap * k:=Nat.mul_le_mul_right _ hroom
 rw [Nat.add_mul] at hnk
 have hnl:=hn.1
 -- the old cells
 have hold:RepL Φ μ cs (cur.toList.take (n * k)):=by
  refine ⟨by rw [List.length_take,Array.length_toList,hcs];omega,fun j c u hc hu=>?_⟩
  have hj:j < n * k:=by rw [←hcs];exact (List.getElem?_eq_some_iff.1 hc).1
  cases hr with
  |sl0=>rw [List.getElem?_nil] at hc;cases hc
  |sl _ _ _ _ _ _ _ us _ _ _ hp hrr=>
   have h1:=h.imm _ _ _ (hp j (by omega))
   rw [List.getElem?_take,if_pos hj] at hu
   simp only [World.cell?,hg,Nat.zero_add] at h1
   have:u=us j:=by
    have hu' : cur[j]? = some u:=by simpa using hu
    rw [hu'] at h1;simpa using h1
   rw [this];exact hrr j c hc
 let all:List Value:=cur.toList.take (n * k) ++ news
 have hall:all.length=(n+m) * k:=by show (cur.toList.take (n * k) ++ news).length=_;rw [List.length_append,List.length_take,Array.length_toList,hnl,hds,Nat.add_mul];omega
 have hrep:RepL Φ μ (cs ++ ds) all:=by
  refine ⟨by rw [hall,List.length_append,hcs,hds,Nat.add_mul],fun j c u hc hu=>?_⟩
  by_cases hj:j < n * k
  ·rw [List.getElem?_append_left (by omega)] at hc
   rw [List.getElem?_append_left (by rw [List.length_take,Array.length_toList];omega)] at hu
   exact hold.2 j c u hc hu
  ·rw [List.getElem?_append_right (by omega),hcs] at hc
   rw [List.getElem?_append_right (by rw [List.length_take,Array.length_toList];omega),List.length_take,Array.length_toList,show min (n * k) cur.size=n * k by omega] at hu
   exact hn.2 _ c u hc hu
 let Φ' : Imm:=fun b o=>if b=g then all[o]? else Φ b o
 have hrow:∀j,Φ' g j=all[j]?:=by intro j;show (if _ then _ else _)=_;simp
 have hoth:∀b j,b≠g→Φ' b j=Φ b j:=by intro b j hb;show (if _ then _ else _)=_;simp [hb]
 have hsub:∀b o u,Φ b o=some u→Φ' b o=some u:=by
  intro b o u eu
  by_cases hb:b=g
  ·subst hb
   rw [hrow]
   have ho:o < n * k:=by
    rcases Nat.lt_or_ge o (n * k) with hlt|hge
    ·exact hlt
    ·rw [hfree o hge] at eu;cases eu
   have h1:=h.imm b o u eu
   simp only [World.cell?,hg] at h1
   show (cur.toList.take (n * k) ++ news)[o]? = _
   rw [List.getElem?_append_left (by rw [List.length_take,Array.length_toList];omega),List.getElem?_take,if_pos ho]
   simpa using h1
  ·rw [hoth b o hb];exact eu
 have hlt:g < w.heap.size:=(Array.getElem?_eq_some_iff.1 hg).1
 have hω' : ∀g' p,ω g' = some p→p≠.tmp s→upd ω g (some (.tmp d)) g' = some p:=by
  intro g' p eg hp
  simp only [upd_if]
  rw [if_neg (by rintro rfl;rw [hω] at eg;cases eg;exact hp rfl)]
  exact eg
 have hstep:∀q n' k' E v,q≠.tmp s→OwnAt (Mine Φ0 W) Φ ω w q n' k' E v→OwnAt (Mine Φ0 W) Φ' (upd ω g (some (.tmp d))) (w.setRow g (cur.toList.take (n * k) ++ news ++ cur.toList.drop (n * k+news.length)).toArray) q n' k' E v:=by
  intro q n' k' E v hq hh
  refine hh.step (fun g' eg=>?_)
  have hne:g'≠g:=by rintro rfl;rw [hω] at eg;cases eg;exact hq rfl
  exact ⟨setRow_other w g g' _ hne,fun j=>hoth g' j hne,hω' g' q eg hq⟩
 refine ⟨Φ',upd ω g (some (.tmp d)),?_,h.defers,by simp [Act.put,h.size],?_,?_,fun t=>?_,fun t n' k' cs' E' et=>?_,fun id bs eb=>?_,h.gone,?_,h.gmu,h.kmu,fun b o u e=>⟨hsub _ _ _ (h.ext b o u e).1,(h.ext b o u e).2⟩,fun id X e=>(h.map id X e).step hsub (fun _ _ e=>e) (fun q hq g' eg=>?_),fun g' p e=>?_⟩
 ·exact h.below.trans ⟨rfl,rfl,rfl,by simp,fun j hj=>setRow_other w g j _ (hB.ne hj)⟩
 ·intro b o u eu
  by_cases hb:b=g
  ·subst hb
   rw [cell_setRow_same w b o cur _ e _ hg,List.getElem?_toArray]
   rw [hrow] at eu
   rw [List.getElem?_append_left (by have:=(List.getElem?_eq_some_iff.1 eu).1;exact this)]
   exact eu
  ·rw [hoth b o hb] at eu
   have:=h.imm b o u eu
   simp only [World.cell?] at this ⊢
   rw [setRow_other w g b _ hb];exact this
 ·intro b o hb
  rw [hoth b o (hB.ne hb)];exact h.old b o hb
 ·rw [getD_put _ _ _ _ hd']
  simp only [upd_if]
  by_cases ht:t=d
  ·simp only [if_pos ht]
   refine .sl (n+m) k _ _ g 0 cap (fun j=>all.getD j undef) (by rw [List.length_append,hcs,hds,Nat.add_mul]) hroom hcap (fun j hj=>?_) (fun j c hc=>?_)
   ·rw [Nat.zero_add,hrow]
    have:j < all.length:=by rw [hrep.1];exact hj
    rw [List.getD_eq_getElem?_getD,List.getElem?_eq_getElem this];rfl
   ·exact (hrep.mono hsub (fun _ _ e=>e)).us j c hc
  ·simp only [if_neg ht]
   by_cases hts:t=s
   ·subst hts;simp only [if_true];exact ((h.tmps t).mono hsub (fun _ _ e=>e)).bare
   ·simp only [if_neg hts];exact (h.tmps t).mono hsub (fun _ _ e=>e)
 ·rw [getD_put _ _ _ _ hd']
  simp only [upd_if] at et
  by_cases ht:t=d
  ·simp only [if_pos ht] at et ⊢
   cases et
   subst ht
   refine .inr (.inl ⟨g,cap,_,rfl,hB,setRow_heap w g cur _ e _ hg,hroom,hcap,?_,by simp [upd_if],hE,fun j hj=>?_⟩)
   ·simp only [List.size_toArray,List.length_append,List.length_take,List.length_drop,Array.length_toList];omega
   ·rw [hrow,List.getElem?_eq_none (by omega)]
  ·simp only [if_neg ht] at et ⊢
   by_cases hts:t=s
   ·simp only [if_pos hts] at et
    have:=PV.bare_own (σ.t s);rw [et] at this;simp [PV.ownB] at this
   ·simp only [if_neg hts] at et
    exact hstep _ _ _ _ _ (by simp [hts]) (h.own t n' k' cs' E' et)
 ·obtain ⟨g2,cur',Ty,h1,h2',h3,h4,h5,h6,h7⟩:=h.box id bs eb
  have hne:g2≠g:=by rintro rfl;rw [hω] at h4;cases h4
  refine ⟨g2,cur',Ty,h1,by rw [setRow_other w g g2 _ hne];exact h2',h3,hω' g2 _ h4 (by simp),fun j=>by rw [hoth g2 j hne];exact h5 j,h6,fun j c hc=>?_⟩
  obtain ⟨u,r1,r2,r3,r4⟩:=h7 j c hc
  exact ⟨u,r1,r2,r3.mono hsub (fun _ _ e=>e),fun n k cs E e=>hstep _ _ _ _ _ (by simp) (r4 n k cs E e)⟩
 ·intro g' p eg
  simp only [upd_if] at eg
  split at eg
  ·subst g'; simpa using hlt
  ·simpa using h.lt g' p eg
 ·have hne:g'≠g:=by rintro rfl;rw [hω] at eg;cases eg;rcases hq with hq|⟨j,hq⟩<;>cases hq
  exact ⟨setRow_other w g g' _ hne,fun j=>hoth g' j hne,hω' g' q eg (by rintro rfl;rcases hq with hq|⟨j,hq⟩<;>cases hq)⟩
 ·simp only [upd_if] at e
  split at e
  ·subst g'; exact hB
  ·exact h.mine g' p e
end
end Go.Proofs.YtoamkpgaaanafaaGreat

/- Pure states: slices of one's own in variables. -/
namespace Go.Proofs.YtoamkpgaaanafaaGreat
set_option linter.unusedSimpArgs false
set_option linter.unusedVariables false
set_option linter.unnecessarySimpa false
open Go.RowKit
section
variable {Φ0:Ent} {W:World} {M:Nat} {Φ:Imm} {μ:Nat→Option Nat} {ω:Nat→Option Who} {σ:PS} {a:Act} {w:World} {P:Program} {T:Tab}
theorem set_get {α:Type} {l:List α} {i j:Nat} {x c:α} (h:(l.set i x)[j]? = some c):(j=i∧c=x)∨(j≠i∧l[j]? = some c):=by
 rw [List.getElem?_set] at h
 by_cases e:i=j
 ·subst e
  rw [if_pos rfl] at h
  split at h
  ·simp at h;exact .inl ⟨rfl,h.symm⟩
  ·cases h
 ·rw [if_neg e] at h;exact .inr ⟨fun x=>e x.symm,h⟩
theorem RelG.disj (h:RelG Φ0 W M Φ μ ω σ a w) {i j:Nat} {bs:List PV} {X:PMap} (hb:σ.b i=some bs) (hm:σ.m j=some X):i≠j:=by
 rintro rfl
 obtain ⟨g,cur,T,h1,h2,-⟩:=h.box _ _ hb
 obtain ⟨g',k1,-,-,-,k5⟩:=h.map _ _ hm
 rw [h1] at k1;cases k1
 cases X with
 |map es clock=>obtain ⟨-,ents,k6,-⟩:=k5;rw [h2] at k6;cases k6
 |iter mid since seen last=>obtain ⟨gm,-,k6⟩:=k5;rw [h2] at k6;cases k6
theorem RelG.give (h:RelG Φ0 W M Φ μ ω σ a w) {s id off n k g:Nat} {cs:List PV} {E:TypeId} {bs:List PV} (hs:σ.t s = .sl n k cs (some E)) (hb:σ.b id=some bs) (ho:bs[off]? = some (.sl n k cs none)) (hg:μ id=some g) (hc:w.cell? ⟨g,off,none⟩=some (a.tmps.getD s undef)) :
  ∃ω',RelG Φ0 W M Φ μ ω' { t:=upd σ.t s (σ.t s).bare,b:=upd σ.b id (some (bs.set off (.sl n k cs (some E)))),m:=σ.m } a w:=by
 have hown:=h.own s n k cs E hs
 have hmo:∀i X,σ.m i=some X→∀q,OfId i q→q≠.tmp s:=by
  rintro i X e q hq rfl
  rcases hq with hq|⟨j,hq⟩<;>cases hq
 have key:∀ω' : Nat→Option Who,(∀g p,ω g=some p→p≠.tmp s→ω' g=some p)→(∀g p,ω' g=some p→g < w.heap.size∧Mine Φ0 W g)→OwnAt (Mine Φ0 W) Φ ω' w (.cell id off) n k E (a.tmps.getD s undef) →
   RelG Φ0 W M Φ μ ω' { t:=upd σ.t s (σ.t s).bare,b:=upd σ.b id (some (bs.set off (.sl n k cs (some E)))),m:=σ.m } a w:=by
  intro ω' hω hlt ho'
  have hstep:∀q n k E v,q≠.tmp s→OwnAt (Mine Φ0 W) Φ ω w q n k E v→OwnAt (Mine Φ0 W) Φ ω' w q n k E v:=fun q n k E v hq hh=>hh.step (fun g e=>⟨rfl,fun _=>rfl,hω g q e hq⟩)
  have h1:=h.strip s
  refine ⟨h.below,h.defers,h.size,h.imm,h.old,h1.tmps,fun t n' k' cs' E' e=>?_,fun i bs' e=>?_,fun i e em=>?_,fun g p e=>(hlt g p e).1,h.gmu,h.kmu_upd hb _,h.ext,fun i X e=>(h.map i X e).step (fun _ _ _ e=>e) (fun _ _ e=>e) (fun q hq g e' => ⟨rfl,fun _=>rfl,hω g q e' (hmo i X e q hq)⟩),fun g p e=>(hlt g p e).2⟩
  ·by_cases ht:t=s
   ·subst ht
    simp only [upd_if,if_true] at e
    have:=PV.bare_own (σ.t t);rw [e] at this;simp [PV.ownB] at this
   ·simp only [upd_if,if_neg ht] at e
    exact hstep _ _ _ _ _ (by simp [ht]) (h.own t n' k' cs' E' e)
  ·by_cases hi:i=id
   ·subst hi
    simp only [upd_if,if_true] at e
    cases e
    obtain ⟨g',cur,Ty,h1,h2,h3,h4,h5,h6,h7⟩:=h.box i bs hb
    rw [hg] at h1;cases h1
    refine ⟨g,cur,Ty,hg,h2,h3,hω g _ h4 (by simp),h5,by simpa using h6,fun j c hcj=>?_⟩
    rcases set_get hcj with ⟨rfl,rfl⟩|⟨hne,hcj⟩
    ·obtain ⟨u,r1,r2,r3,r4⟩:=h7 j _ ho
     have hu:u=a.tmps.getD s undef:=by
      simp only [World.cell?,h2] at hc
      have hc' : cur[j]? = some (a.tmps.getD s undef):=by simpa using hc
      rw [r1] at hc'; simpa using hc'
     refine ⟨u,r1,r2,?_,fun n' k' cs' E' e=>?_⟩
     ·have:=h.tmps s;rw [hs,←hu] at this;exact this
     ·cases e;rw [hu];exact ho'
    ·obtain ⟨u,r1,r2,r3,r4⟩:=h7 j c hcj
     exact ⟨u,r1,r2,r3,fun n k cs E e=>hstep _ _ _ _ _ (by simp) (r4 n k cs E e)⟩
   ·simp only [upd_if,if_neg hi] at e
    obtain ⟨g',cur,Ty,h1,h2,h3,h4,h5,h6,h7⟩:=h.box i bs' e
    refine ⟨g',cur,Ty,h1,h2,h3,hω g' _ h4 (by simp),h5,h6,fun j c hcj=>?_⟩
    obtain ⟨u,r1,r2,r3,r4⟩:=h7 j c hcj
    exact ⟨u,r1,r2,r3,fun n k cs E e=>hstep _ _ _ _ _ (by simp) (r4 n k cs E e)⟩
  ·by_cases hi:i=id
   ·subst hi;simp [upd_if] at e
   ·simp only [upd_if,if_neg hi] at e;exact h.gone i e em
 rcases hown with ⟨hn,hn0⟩|⟨g',cap,cur,h1,h2,h3,h4,h5,h6,h7,h8⟩|hfl
 rotate_left 2
 ·exact ⟨ω,key ω (fun g p e _=>e) (fun g p e=>⟨h.lt g p e,h.mine g p e⟩) (.inr (.inr hfl))⟩
 ·exact ⟨ω,key ω (fun g p e _=>e) (fun g p e=>⟨h.lt g p e,h.mine g p e⟩) (.inl ⟨hn,hn0⟩)⟩
 ·refine ⟨upd ω g' (some (.cell id off)),key _ ?_ ?_ (.inr (.inl ⟨g',cap,cur,h1,h2,h3,h4,h5,h6,by simp [upd_if],h8⟩))⟩
  ·intro g'' p e hp
   simp only [upd_if]
   rw [if_neg (by rintro rfl;rw [h7] at e;cases e;exact hp rfl)]
   exact e
  ·intro g'' p e
   simp only [upd_if] at e
   split at e
   ·subst g''; exact ⟨(Array.getElem?_eq_some_iff.1 h3).1,h2⟩
   ·exact ⟨h.lt g'' p e,h.mine g'' p e⟩
theorem RelG.fetch (h:RelG Φ0 W M Φ μ ω σ a w) {d id off n k g:Nat} (hd:d < M) {cs:List PV} {E:TypeId} {bs:List PV} (hb:σ.b id=some bs) (ho:bs[off]? = some (.sl n k cs (some E))) (hg:μ id=some g) :
  ∃u ω',w.cell? ⟨g,off,none⟩=some u∧RelG Φ0 W M Φ μ ω' { t:=upd σ.t d (.sl n k cs (some E)),b:=upd σ.b id (some (bs.set off (.sl n k cs none))),m:=σ.m } (a.put (some d) u) w:=by
 have hd' : d < a.tmps.size:=by rw [h.size];exact hd
 obtain ⟨g',cur,Ty,b1,b2,b3,b4,b5,b6,b7⟩:=h.box id bs hb
 rw [hg] at b1;cases b1
 obtain ⟨u,r1,r2,r3,r4⟩:=b7 off _ ho
 have hown:=r4 n k cs E rfl
 have hcell:w.cell? ⟨g,off,none⟩=some u:=by simp [World.cell?,b2,r1]
 have hmo:∀i X,σ.m i=some X→∀q,OfId i q→q≠.cell id off:=by
  rintro i X e q hq rfl
  rcases hq with hq|⟨j,hq⟩
  ·cases hq
  ·cases hq;exact h.disj hb e rfl
 have key:∀ω' : Nat→Option Who,(∀g p,ω g=some p→p≠.cell id off→ω' g=some p)→(∀g p,ω' g=some p→g < w.heap.size∧Mine Φ0 W g)→OwnAt (Mine Φ0 W) Φ ω' w (.tmp d) n k E u →
   RelG Φ0 W M Φ μ ω' { t:=upd σ.t d (.sl n k cs (some E)),b:=upd σ.b id (some (bs.set off (.sl n k cs none))),m:=σ.m } (a.put (some d) u) w:=by
  intro ω' hω hlt ho'
  have hstep:∀q n k E v,q≠.cell id off→OwnAt (Mine Φ0 W) Φ ω w q n k E v→OwnAt (Mine Φ0 W) Φ ω' w q n k E v:=fun q n k E v hq hh=>hh.step (fun g e=>⟨rfl,fun _=>rfl,hω g q e hq⟩)
  refine ⟨h.below,h.defers,by simp [Act.put,h.size],h.imm,h.old,fun t=>?_,fun t n' k' cs' E' e=>?_,fun i bs' e=>?_,fun i e em=>?_,fun g p e=>(hlt g p e).1,h.gmu,h.kmu_upd hb _,h.ext,fun i X e=>(h.map i X e).step (fun _ _ _ e=>e) (fun _ _ e=>e) (fun q hq g e' => ⟨rfl,fun _=>rfl,hω g q e' (hmo i X e q hq)⟩),fun g p e=>(hlt g p e).2⟩
  ·rw [getD_put _ _ _ _ hd']
   by_cases ht:t=d
   ·simp only [upd_if,if_pos ht];exact r3
   ·simp only [upd_if,if_neg ht];exact h.tmps t
  ·rw [getD_put _ _ _ _ hd']
   by_cases ht:t=d
   ·simp only [upd_if,if_pos ht] at e ⊢
    cases e
    subst ht;exact ho'
   ·simp only [upd_if,if_neg ht] at e ⊢
    exact hstep _ _ _ _ _ (by simp) (h.own t n' k' cs' E' e)
  ·by_cases hi:i=id
   ·subst hi
    simp only [upd_if,if_true] at e
    cases e
    refine ⟨g,cur,Ty,hg,b2,b3,hω g _ b4 (by simp),b5,by simpa using b6,fun j c hcj=>?_⟩
    rcases set_get hcj with ⟨rfl,rfl⟩|⟨hne,hcj⟩
    ·exact ⟨u,r1,r2,r3.bare,fun n' k' cs' E' e=>by cases e⟩
    ·obtain ⟨u',q1,q2,q3,q4⟩:=b7 j c hcj
     exact ⟨u',q1,q2,q3,fun n k cs E e=>hstep _ _ _ _ _ (by simp [hne]) (q4 n k cs E e)⟩
   ·simp only [upd_if,if_neg hi] at e
    obtain ⟨g',cur',Ty',h1,h2,h3,h4,h5,h6,h7⟩:=h.box i bs' e
    refine ⟨g',cur',Ty',h1,h2,h3,hω g' _ h4 (by simp),h5,h6,fun j c hcj=>?_⟩
    obtain ⟨u',q1,q2,q3,q4⟩:=h7 j c hcj
    exact ⟨u',q1,q2,q3,fun n k cs E e=>hstep _ _ _ _ _ (by simp [hi]) (q4 n k cs E e)⟩
  ·by_cases hi:i=id
   ·subst hi;simp [upd_if] at e
   ·simp only [upd_if,if_neg hi] at e;exact h.gone i e em
 rcases hown with ⟨hn,hn0⟩|⟨g',cap,cur',h1,h2,h3,h4,h5,h6,h7,h8⟩|hfl
 rotate_left 2
 ·exact ⟨u,ω,hcell,key ω (fun g p e _=>e) (fun g p e=>⟨h.lt g p e,h.mine g p e⟩) (.inr (.inr hfl))⟩
 ·exact ⟨u,ω,hcell,key ω (fun g p e _=>e) (fun g p e=>⟨h.lt g p e,h.mine g p e⟩) (.inl ⟨hn,hn0⟩)⟩
 ·refine ⟨u,upd ω g' (some (.tmp d)),hcell,key _ ?_ ?_ (.inr (.inl ⟨g',cap,cur',h1,h2,h3,h4,h5,h6,by simp [upd_if],h8⟩))⟩
  ·intro g'' p e hp
   simp only [upd_if]
   rw [if_neg (by rintro rfl;rw [h7] at e;cases e;exact hp rfl)]
   exact e
  ·intro g'' p e
   simp only [upd_if] at e
   split at e
   ·subst g''; exact ⟨(Array.getElem?_eq_some_iff.1 h3).1,h2⟩
   ·exact ⟨h.lt g'' p e,h.mine g'' p e⟩
def World.setO (w:World) (g:Nat) (o:Obj):World:={ w with heap:=w.heap.setIfInBounds g o }
theorem setO_other (w:World) (g k:Nat) (o:Obj) (h:k≠g):(World.setO w g o).heap[k]? = w.heap[k]?:=by
 simp [World.setO,Array.getElem?_setIfInBounds,Ne.symm h]
theorem setO_same (w:World) (g:Nat) (o:Obj) (h:g < w.heap.size):(World.setO w g o).heap[g]? = some o:=by
 simp [World.setO,Array.getElem?_setIfInBounds,h]
theorem RelG.setMap (h:RelG Φ0 W M Φ μ ω σ a w) {id g:Nat} {X X' : PMap} (hm:σ.m id=some X) (hg:μ id=some g) (ob:Obj) (hX:match X' with
   | .map es clock=>StampsOK es clock∧∃ents,ob = .map ents clock∧ents.size=es.length∧∀(j:Nat) s k c,es[j]? = some (s,k,c)→∃e,ents[j]? = some e∧e.born=s∧Rep Φ μ k e.key∧Rep Φ μ c e.val∧∀n kk cs E,c = .sl n kk cs (some E)→OwnAt (Mine Φ0 W) Φ ω w (.cell id s) n kk E e.val
   | .iter mid since seen last=>∃gm,μ mid=some gm∧ob = .mapIter (some gm) since seen.toArray last) :
  RelG Φ0 W M Φ μ ω { σ with m:=upd σ.m id (some X') } a (World.setO w g ob):=by
 obtain ⟨g',k1,k2,k3,k4,k5⟩:=h.map _ _ hm
 rw [hg] at k1;cases k1
 have hlt:=h.lt g _ k3
 have hkeep:∀q:Who,q≠.box id→∀g',ω g' = some q→(World.setO w g ob).heap[g']? = w.heap[g']?∧(∀j,Φ g' j=Φ g' j)∧ω g' = some q:=by
  intro q hq g' e
  refine ⟨setO_other w g g' _ ?_,fun _=>rfl,e⟩
  rintro rfl
  rw [k3] at e;cases e;exact hq rfl
 refine ⟨h.below.trans ⟨rfl,rfl,rfl,by simp [World.setO],fun k hk=>setO_other w g k _ (k2.ne hk)⟩,h.defers,h.size,?_,h.old,h.tmps,fun t n k cs E e=>(h.own t n k cs E e).step (hkeep _ (by simp)),fun i bs e=>(h.box i bs e).step (fun _ _ _ e=>e) (fun _ _ e=>e) (fun q hq=>hkeep q ?_),fun i e em=>?_,fun g' p e=>by simpa [World.setO] using h.lt g' p e,h.gmu,fun i g' e hi=>h.kmu i g' e ?_,h.ext,fun i Y e=>?_,h.mine⟩
 ·intro b o u e
  have hbg:b≠g:=by rintro rfl;rw [k4] at e;cases e
  have:=h.imm b o u e
  simp only [World.cell?] at this ⊢
  rw [setO_other w g b _ hbg];exact this
 ·rintro rfl
  rcases hq with hq|⟨j,hq⟩
  ·cases hq;exact h.disj e hm rfl
  ·cases hq
 ·by_cases hi:i=id
  ·subst hi;simp [upd_if] at em
  ·simp only [upd_if,if_neg hi] at em;exact h.gone i e em
 ·rcases hi with hi|hi
  ·exact .inl hi
  ·by_cases hid:i=id
   ·subst hid;right;rw [hm];simp
   ·simp only [upd_if,if_neg hid] at hi;exact .inr hi
 ·by_cases hi:i=id
  ·subst hi
   simp only [upd_if,if_true] at e
   cases e
   refine ⟨g,hg,k2,k3,k4,?_⟩
   cases X' with
   |map es clock=>
    obtain ⟨e0,ents,rfl,e2,e3⟩:=hX
    refine ⟨e0,ents,setO_same w g _ hlt,e2,fun j s k c hj=>?_⟩
    obtain ⟨e,f1,f2,f3,f4,f5⟩:=e3 j s k c hj
    exact ⟨e,f1,f2,f3,f4,fun n kk cs E ec=>(f5 n kk cs E ec).step (hkeep _ (by simp))⟩
   |iter mid since seen last=>
    obtain ⟨gm,e1,rfl⟩:=hX
    exact ⟨gm,e1,setO_same w g _ hlt⟩
  ·simp only [upd_if,if_neg hi] at e
   exact (h.map i Y e).step (fun _ _ _ e=>e) (fun _ _ e=>e) (fun q hq=>hkeep q (by rintro rfl;rcases hq with hq|⟨j,hq⟩<;>cases hq;exact hi rfl))
theorem RelG.turn (h:RelG Φ0 W M Φ μ ω σ a w) {σ' : PS} {a' : Act} {p q:Who} {n k:Nat} {E:TypeId} {v:Value} (ho:OwnAt (Mine Φ0 W) Φ ω w p n k E v)
  (hsz:a'.tmps.size=M) (hdf:a'.defers=Φ0.marks.map collD∧RndOK Φ0 W) (htm:∀t,Rep Φ μ (σ'.t t) (a'.tmps.getD t undef))
  (key:∀ω' : Nat→Option Who,(∀g r,ω g=some r→r≠p→ω' g=some r)→OwnAt (Mine Φ0 W) Φ ω' w q n k E v →
   (∀t n k cs E,σ'.t t = .sl n k cs (some E)→OwnAt (Mine Φ0 W) Φ ω' w (.tmp t) n k E (a'.tmps.getD t undef))∧(∀id bs,σ'.b id=some bs→BoxAt (Mine Φ0 W) Φ μ ω' w id bs)∧(∀id X,σ'.m id=some X→MapAt (Mine Φ0 W) Φ μ ω' w id X))
  (hb:∀id,σ'.b id=none↔σ.b id=none) (hm:∀id,σ'.m id=none↔σ.m id=none):∃ω',RelG Φ0 W M Φ μ ω' σ' a' w:=by
 have fin:∀ω' : Nat→Option Who,(∀g r,ω g=some r→r≠p→ω' g=some r)→(∀g p,ω' g=some p→g < w.heap.size∧Mine Φ0 W g)→OwnAt (Mine Φ0 W) Φ ω' w q n k E v→RelG Φ0 W M Φ μ ω' σ' a' w:=by
  intro ω' h1 h2 h3
  obtain ⟨k1,k2,k3⟩:=key ω' h1 h3
  exact ⟨h.below,hdf,hsz,h.imm,h.old,htm,k1,k2,fun id e em=>h.gone id ((hb id).1 e) ((hm id).1 em),fun g p e=>(h2 g p e).1,h.gmu,fun id g e hi=>h.kmu id g e (by
   rcases hi with hi|hi
   ·exact .inl (fun e=>hi ((hb id).2 e))
   ·exact .inr (fun e=>hi ((hm id).2 e))),h.ext,k3,fun g p e=>(h2 g p e).2⟩
 rcases ho with ⟨hn,hn0⟩|⟨g',cap,cur,h1,h2,h3,h4,h5,h6,h7,h8⟩|hfl
 rotate_left 2
 ·exact ⟨ω,fin ω (fun g r e _=>e) (fun g p e=>⟨h.lt g p e,h.mine g p e⟩) (.inr (.inr hfl))⟩
 ·exact ⟨ω,fin ω (fun g r e _=>e) (fun g p e=>⟨h.lt g p e,h.mine g p e⟩) (.inl ⟨hn,hn0⟩)⟩
 ·refine ⟨upd ω g' (some q),fin _ ?_ ?_ (.inr (.inl ⟨g',cap,cur,h1,h2,h3,h4,h5,h6,by simp [upd_if],h8⟩))⟩
  ·intro g r e hp
   simp only [upd_if]
   rw [if_neg (by rintro rfl;rw [h7] at e;cases e;exact hp rfl)]
   exact e
  ·intro g r e
   simp only [upd_if] at e
   split at e
   ·subst g;exact ⟨(Array.getElem?_eq_some_iff.1 h3).1,h2⟩
   ·exact ⟨h.lt g r e,h.mine g r e⟩
theorem stamps_set {es:List (Nat×PV×PV)} {clock j s:Nat} {k c k' c' : PV} (h:StampsOK es clock) (hj:es[j]? = some (s,k,c)):StampsOK (es.set j (s,k',c')) clock:=by
 have e1:(es.set j (s,k',c')).map (·.1)=es.map (·.1):=by
  rw [List.map_set]
  apply List.ext_getElem?
  intro q
  rw [List.getElem?_set]
  split
  ·rename_i e;subst e
   rw [List.getElem?_map,hj]
   split
   ·rfl
   ·rename_i hl;simp at hl;have:=(List.getElem?_eq_some_iff.1 hj).1;omega
  ·rfl
 refine ⟨by rw [e1];exact h.1,fun e he=>?_⟩
 have:e.1∈(es.set j (s,k',c')).map (·.1):=List.mem_map.2 ⟨e,he,rfl⟩
 rw [e1] at this
 obtain ⟨x,hx,e2⟩:=List.mem_map.1 this
 rw [←e2];exact h.2 x hx
theorem RelG.giveM (h:RelG Φ0 W M Φ μ ω σ a w) {s id n k j st clock g:Nat} {cs:List PV} {E:TypeId} {es:List (Nat×PV×PV)} {kp:PV} {ents:Array MapEntry} {en:MapEntry} (hs:σ.t s = .sl n k cs (some E)) (hm:σ.m id=some (.map es clock)) (hj:es[j]? = some (st,kp, .sl n k cs none))
  (hg:μ id=some g) (hh:w.heap[g]? = some (.map ents clock)) (he:ents[j]? = some en) (hv:en.val=a.tmps.getD s undef) :
  ∃ω',RelG Φ0 W M Φ μ ω' { t:=upd σ.t s (σ.t s).bare,b:=σ.b,m:=upd σ.m id (some (.map (es.set j (st,kp, .sl n k cs (some E))) clock)) } a w:=by
 refine h.turn (q:=.cell id st) (h.own s n k cs E hs) h.size h.defers (h.strip s).tmps (fun ω' hω ho' => ⟨?_,?_,?_⟩) (fun i=>Iff.rfl) (fun i=>?_)
 ·intro t n' k' cs' E' e
  by_cases ht:t=s
  ·subst ht
   simp only [upd_if,if_true] at e
   have:=PV.bare_own (σ.t t);rw [e] at this;simp [PV.ownB] at this
  ·simp only [upd_if,if_neg ht] at e
   exact (h.own t n' k' cs' E' e).step (fun g e=>⟨rfl,fun _=>rfl,hω g _ e (by simp [ht])⟩)
 ·intro i bs e
  exact (h.box i bs e).step (fun _ _ _ e=>e) (fun _ _ e=>e) (fun q hq g e' => ⟨rfl,fun _=>rfl,hω g q e' (by rintro rfl;rcases hq with hq|⟨j,hq⟩<;>cases hq)⟩)
 ·intro i X e
  have hk:KeptBy (OfId i) Φ Φ ω ω' w w:=fun q hq g e' => ⟨rfl,fun _=>rfl,hω g q e' (by rintro rfl;rcases hq with hq|⟨j,hq⟩<;>cases hq)⟩
  by_cases hi:i=id
  ·subst hi
   simp only [upd_if,if_true] at e
   cases e
   obtain ⟨g',k1,k2,k3,k4,hst,ents',k5,k6,k7⟩:=h.map i _ hm
   rw [hg] at k1;cases k1
   rw [hh] at k5;cases k5
   refine ⟨g,hg,k2,(hk _ (.inl rfl) g k3).2.2,k4,stamps_set hst hj,ents,hh,by simpa using k6,fun j' s' kk c hj' => ?_⟩
   rcases set_get hj' with ⟨rfl,e⟩|⟨hne,hj'⟩
   ·cases e
    obtain ⟨e,f1,f2,f3,f4,f5⟩:=k7 j' _ _ _ hj
    rw [he] at f1;cases f1
    refine ⟨en,he,f2,f3,?_,fun n' kk' cs' E' e=>?_⟩
    ·have:=h.tmps s;rw [hs,←hv] at this;exact this
    ·cases e;rw [hv];exact ho'
   ·obtain ⟨e,f1,f2,f3,f4,f5⟩:=k7 j' _ _ _ hj'
    exact ⟨e,f1,f2,f3,f4,fun n' kk' cs' E' ec=>(f5 n' kk' cs' E' ec).step (fun g e' => hk _ (.inr ⟨_,rfl⟩) g e')⟩
  ·simp only [upd_if,if_neg hi] at e
   exact (h.map i X e).step (fun _ _ _ e=>e) (fun _ _ e=>e) hk
 ·by_cases hi:i=id
  ·subst hi;simp [upd_if,hm]
  ·simp [upd_if,hi]
theorem RelG.fetchM (h:RelG Φ0 W M Φ μ ω σ a w) {d id n k j st clock g:Nat} (hd:d < M) {cs:List PV} {E:TypeId} {es:List (Nat×PV×PV)} {kp:PV} {ents:Array MapEntry} {en:MapEntry} (hm:σ.m id=some (.map es clock)) (hj:es[j]? = some (st,kp, .sl n k cs (some E)))
  (hg:μ id=some g) (hh:w.heap[g]? = some (.map ents clock)) (he:ents[j]? = some en) :
  ∃ω',RelG Φ0 W M Φ μ ω' { t:=upd σ.t d (.sl n k cs (some E)),b:=σ.b,m:=upd σ.m id (some (.map (es.set j (st,kp, .sl n k cs none)) clock)) } (a.put (some d) en.val) w:=by
 have hd' : d < a.tmps.size:=by rw [h.size];exact hd
 obtain ⟨g',k1,k2,k3,k4,hst,ents',k5,k6,k7⟩:=h.map id _ hm
 rw [hg] at k1;cases k1
 rw [hh] at k5;cases k5
 obtain ⟨en',f1,f2,f3,f4,f5⟩:=k7 j _ _ _ hj
 rw [he] at f1;cases f1
 refine h.turn (q:=.tmp d) (f5 n k cs E rfl) (by simp [Act.put,h.size]) h.defers (fun t=>?_) (fun ω' hω ho' => ⟨?_,?_,?_⟩) (fun i=>Iff.rfl) (fun i=>?_)
 ·rw [getD_put _ _ _ _ hd']
  by_cases ht:t=d
  ·simp only [upd_if,if_pos ht];exact f4
  ·simp only [upd_if,if_neg ht];exact h.tmps t
 ·intro t n' k' cs' E' e
  rw [getD_put _ _ _ _ hd']
  by_cases ht:t=d
  ·simp only [upd_if,if_pos ht] at e ⊢
   cases e
   subst ht;exact ho'
  ·simp only [upd_if,if_neg ht] at e ⊢
   exact (h.own t n' k' cs' E' e).step (fun g e=>⟨rfl,fun _=>rfl,hω g _ e (by simp)⟩)
 ·intro i bs e
  exact (h.box i bs e).step (fun _ _ _ e=>e) (fun _ _ e=>e) (fun q hq g e' => ⟨rfl,fun _=>rfl,hω g q e' (by
   rintro rfl
   rcases hq with hq|⟨j,hq⟩
   ·cases hq
   ·cases hq;exact h.disj e hm rfl)⟩)
 ·intro i X e
  by_cases hi:i=id
  ·subst hi
   simp only [upd_if,if_true] at e
   cases e
   refine ⟨g,hg,k2,hω g _ k3 (by simp),k4,stamps_set hst hj,ents,hh,by simpa using k6,fun j' s' kk c hj' => ?_⟩
   rcases set_get hj' with ⟨rfl,e⟩|⟨hne,hj2⟩
   ·cases e
    exact ⟨en,he,f2,f3,f4.bare,fun n' kk' cs' E' e=>by cases e⟩
   ·obtain ⟨e,q1,q2,q3,q4,q5⟩:=k7 j' _ _ _ hj2
    refine ⟨e,q1,q2,q3,q4,fun n' kk' cs' E' ec=>(q5 n' kk' cs' E' ec).step (fun g e' => ⟨rfl,fun _=>rfl,hω g _ e' ?_⟩)⟩
    rw [Ne,Who.cell.injEq]
    rintro ⟨-,rfl⟩
    have h1:(es.map (·.1))[j]? = some s':=by rw [List.getElem?_map,hj];rfl
    have h2:(es.map (·.1))[j']? = some s':=by rw [List.getElem?_map,hj2];rfl
    have hl1:=(List.getElem?_eq_some_iff.1 h1).1
    exact hne ((List.getElem?_inj hl1 hst.1).1 (h1.trans h2.symm)).symm
  ·simp only [upd_if,if_neg hi] at e
   exact (h.map i X e).step (fun _ _ _ e=>e) (fun _ _ e=>e) (fun q hq g e' => ⟨rfl,fun _=>rfl,hω g q e' (by
    rintro rfl
    rcases hq with hq|⟨j,hq⟩
    ·cases hq
    ·cases hq;exact hi rfl)⟩)
 ·by_cases hi:i=id
  ·subst hi;simp [upd_if,hm]
  ·simp [upd_if,hi]
end
end Go.Proofs.YtoamkpgaaanafaaGreat
