/- Out of: PwF2. -/
import Derived.WideLaws
import Derived.Test.YtmeekbjhpidcgaaDoorG7
namespace Go.Proofs.YtmeekbjhpidcgaaDoor
set_option linter.unusedSimpArgs false
set_option linter.unusedVariables false
set_option linter.unnecessarySimpa false
section
open Go.RowKit
def isPtrK:TD→Bool
 | .ptr | .parr .. => true
 |_=>false
def pnil (td:TD):PV→Option Bool
 | .val (.pointer none)=>if isPtrK td then some true else none
 | .ptr _ _=>if isPtrK td then some false else none
 | .ep _ _=>if isPtrK td then some false else none
 | .val (.map none)=>match td with
  | .map _ _=>some true
  |_=>none
 | .mref _=>match td with
  | .map _ _=>some false
  |_=>none
 | .val .nilFunc=>match td with
  | .func=>some true
  |_=>none
 | .fn _ _=>match td with
  | .func=>some false
  |_=>none
 | .nilsl=>match td with
  | .slice .. => some true
  |_=>none
 | .sl (_+1) _ _ _=>match td with
  | .slice .. => some false
  |_=>none
 | .msl _ _ (_+1) _=>match td with
  | .slice .. => some false
  |_=>none
 |_=>none
def nilFit:TD→PV→Bool
 | .slice .., .nilsl=>true
 | .map .., .val (.map none)=>true
 | .func, .val .nilFunc=>true
 | .ptr, .val (.pointer none)=>true
 | .parr .., .val (.pointer none)=>true
 |_,_=>false
def pcmpN (td:TD) (x y:PV):Option Bool:=if nilFit td y then pnil td x else if nilFit td x then pnil td y else none
def skT:TD→Option SK
 | .int _=>some .int
 | .bool=>some .bool
 | .str=>some .str
 |_=>none
def keyOK:TD→Value→Bool
 | .int k, .int k' _=>decide (k=k')
 | .bool, .bool _=>true
 | .str, .string _=>true
 |_,_=>false
def mfind (k:SK) (kv:Value):List (Nat×PV×PV)→Nat→Option (Option Nat)
 | [],_=>some none
 |(_, .val k',_) :: es,i=>match veq k kv k' with
  |some true=>some (some i)
  |some false=>mfind k kv es (i+1)
  |none=>none
 |_ :: _,_=>none
def zeroPV (x:TyI):Option PV:=if x.agg then some (.agg x.zero) else x.zero.head?
def mget (ki ei:TyI) (es:List (Nat×PV×PV)) (kv:Value):Option (PV×Bool):=
 if keyOK ki.kind kv then match skT ki.kind with
  |some k=>match mfind k kv es 0 with
   |some (some j)=>match es[j]? with
    |some (_,_,c)=>some (c.bare,true)
    |none=>none
   |some none=>(zeroPV ei).map fun z=>(z.bare,false)
   |none=>none
  |none=>none
 else none
def pents (m:Nat→Option PMap):PV→Option (List (Nat×PV×PV))
 | .mref id=>match m id with
  |some (.map es _)=>some es
  |_=>none
 | .val (.map none)=>some []
 |_=>none
def plookup (T:Tab) (m:Nat→Option PMap) (td:TD) (x:PV) (k:PV):Option (PV×Bool):=
 match td,k with
 | .map kt et, .val kv=>match T.at kt,T.at et,pents m x with
  |some ki,some ei,some es=>mget ki ei es kv
  |_,_,_=>none
 |_,_=>none
def pentryAt (m:Nat→Option PMap):PV→Option (PV×PV)
 | .ptr id 0=>match m id with
  |some (.iter mid _ seen last)=>match m mid with
   |some (.map es clock)=>if clock=last then match seen.getLast? with
    |some s=>(es.find? fun e=>e.1 == s).map fun e=>(e.2.1.bare,e.2.2.bare)
    |none=>none else none
   |_=>none
  |_=>none
 |_=>none
def pmaxL (mx:Bool):IntKind→Int→List PV→Option PV
 |k,n,[]=>some (.val (.int k n))
 |k,n, .val (.int _ y) :: r=>pmaxL mx k (if mx then (if y > n then y else n) else (if y < n then y else n)) r
 |_,_,_=>none
def pmax (mx:Bool):List PV→Option PV
 | .val (.int k n) :: r=>pmaxL mx k n r
 |_=>none
def pvalX (T:Tab) (σ:PS):Op→Option PV
 | .nilCheck x=>match pev σ x with
  | .ptr id off=>some (.ptr id off)
  | .ep cs off=>some (.ep cs off)
  | .fn f cs=>some (.fn f cs)
  |_=>none
 | .binOp op t x y _=>match T.at t with
  |some ti=>match op with
   | .eql=>(pcmpN ti.kind (pev σ x) (pev σ y)).map fun b=>.val (.bool b)
   | .neq=>(pcmpN ti.kind (pev σ x) (pev σ y)).map fun b=>.val (.bool !b)
   |_=>none
  |none=>none
 | .lookup t x k ok=>match T.at t with
  |some ti=>match plookup T σ.m ti.kind (pev σ x) (pev σ k) with
   |some (c,b)=>some (if ok then .tup [c, .val (.bool b)] else c)
   |none=>none
  |none=>none
 | .entry it=>match pentryAt σ.m (pev σ it) with
  |some (k,c)=>some (.tup [k,c])
  |none=>none
 | .sliceToArrayPointer t x=>match T.at t with
  |some ti=>match ti.kind with
   | .arr n _ _ _=>match pev σ x with
    | .msl id off m _=>if n≤m∧0 < m then some (.ptr id off) else none
    | .sl m _ cs _=>if n≤m∧0 < m then some (.ep cs 0) else none
    |_=>none
   |_=>none
  |none=>none
 | .call c=>match c.callee with
  | .builtin .len=>match c.args.toList,c.argTypes.toList with
   | [x],[t]=>match T.at t with
    |some ti=>match ti.kind with
     | .map _ _=>(pents σ.m (pev σ x)).map fun es=>.val (.int .i64 es.length)
     |_=>none
    |none=>none
   |_,_=>none
  | .builtin .max=>pmax true (c.args.toList.map (pev σ))
  | .builtin .min=>pmax false (c.args.toList.map (pev σ))
  |_=>none
 |_=>none
def pvalA (T:Tab) (σ:PS) (op:Op):Option PV:=match pval T σ op with
 |some p=>some p
 |none=>pvalX T σ op
end
section
open Go.RowKit
variable {Φ0:Ent} {W:World} {M:Nat} {Φ:Imm} {μ:Nat→Option Nat} {ω:Nat→Option Who} {σ:PS} {a:Act} {w:World} {P:Program} {T:Tab}
theorem isPtrK_spec {t:TypeId} {ti:TyI} (ht:tyI P t=some ti) (h:isPtrK ti.kind=true):∃e,P.underlying t=some (.pointer e):=by
 cases hk:ti.kind with
 |ptr=>exact kind_ptr ht hk
 |parr n e k=>obtain ⟨t',hu,-⟩:=parr_get ht hk;exact ⟨t',hu⟩
 |_=>rw [hk] at h;simp [isPtrK] at h
theorem nilFit_map {k e:TypeId} {y:PV} (h:nilFit (.map k e) y=true):y = .val (.map none):=by
 unfold nilFit at h;split at h<;>first|rfl|simp_all
theorem nilFit_func {y:PV} (h:nilFit .func y=true):y = .val .nilFunc:=by
 unfold nilFit at h;split at h<;>first|rfl|simp_all
theorem nilFit_slice {e k b:Nat} {z:List PV} {y:PV} (h:nilFit (.slice e k b z) y=true):y = .nilsl:=by
 unfold nilFit at h;split at h<;>first|rfl|simp_all
def noGrd:Value→Bool
 | .pointer _ | .map _ | .func .. | .nilFunc | .slice .. => true
 |_=>false
theorem eqGuard_no {v n:Value} (h:noGrd v=true) (op:BinOp) (t:TypeId) (a b:Operand):(eqGuard op t a b v n).run P w = .ok () w∧(eqGuard op t a b n v).run P w = .ok () w:=by
 constructor
 ·cases v<;>first|(cases h;done)|(cases op<;>rfl)
 ·cases n<;>first|(cases op<;>rfl)|(cases v<;>first|(cases h;done)|(cases op<;>rfl))
theorem binOp_no {v n:Value} (h:noGrd v=true) (t:TypeId):(binOp .eql t v n=do pure (.bool (←Op.equal t v n)))∧(binOp .eql t n v=do pure (.bool (←Op.equal t n v)))∧(binOp .neq t v n=do pure (.bool (!(←Op.equal t v n))))∧(binOp .neq t n v=do pure (.bool (!(←Op.equal t n v)))):=by
 refine ⟨?_,?_,?_,?_⟩
 ·cases v<;>first|(cases h;done)|(cases n<;>rfl)
 ·cases v<;>first|(cases h;done)|(cases n<;>rfl)
 ·cases v<;>first|(cases h;done)|(cases n<;>rfl)
 ·cases v<;>first|(cases h;done)|(cases n<;>rfl)
set_option maxHeartbeats 4000000 in
theorem pnil_sound {t:TypeId} {ti:TyI} (ht:tyI P t=some ti) {x:PV} {v n:Value} {y:PV} (hx:Rep Φ μ x v) (hy:Rep Φ μ y n) {b:Bool} (h:pnil ti.kind x=some b) (hfit:nilFit ti.kind y=true) (d:Nat) :
  (Op.equalIn (d+1) t v n).run P w = .ok b w∧(Op.equalIn (d+1) t n v).run P w = .ok b w∧noGrd v=true:=by
 have ptr:isPtrK ti.kind=true→n = .pointer none∧∃e,P.underlying t=some (.pointer e):=by
  intro hk
  refine ⟨?_,isPtrK_spec ht hk⟩
  unfold nilFit at hfit
  split at hfit
  ·rename_i e;rw [e] at hk;cases hk
  ·rename_i e;rw [e] at hk;cases hk
  ·rename_i e;rw [e] at hk;cases hk
  ·exact hy.val_inv.1
  ·exact hy.val_inv.1
  ·cases hfit
 unfold pnil at h
 split at h
 ·split at h
  ·rename_i hk
   cases h
   obtain ⟨rfl,e,hu⟩:=ptr hk
   obtain ⟨rfl,-⟩:=hx.val_inv
   refine ⟨by simp [Op.equalIn,run_underlying hu],by simp [Op.equalIn,run_underlying hu],rfl⟩
  ·cases h
 ·split at h
  ·rename_i hk
   cases h
   obtain ⟨rfl,e,hu⟩:=ptr hk
   obtain ⟨g,-,rfl⟩:=hx.ptr_inv
   refine ⟨by simp [Op.equalIn,run_underlying hu],by simp [Op.equalIn,run_underlying hu],rfl⟩
  ·cases h
 ·split at h
  ·rename_i hk
   cases h
   obtain ⟨rfl,e,hu⟩:=ptr hk
   obtain ⟨_,_,_,rfl,-⟩:=hx.ep_inv
   refine ⟨by simp [Op.equalIn,run_underlying hu],by simp [Op.equalIn,run_underlying hu],rfl⟩
  ·cases h
 ·split at h
  ·rename_i k e hk
   cases h
   rw [hk] at hfit
   obtain rfl:=nilFit_map hfit
   obtain ⟨rfl,-⟩:=hx.val_inv
   obtain ⟨rfl,-⟩:=hy.val_inv
   have hu:=kind_map ht hk
   refine ⟨by simp [Op.equalIn,run_underlying hu],by simp [Op.equalIn,run_underlying hu],rfl⟩
  ·cases h
 ·split at h
  ·rename_i k e hk
   cases h
   rw [hk] at hfit
   obtain rfl:=nilFit_map hfit
   obtain ⟨g,-,rfl⟩:=hx.mref_inv
   obtain ⟨rfl,-⟩:=hy.val_inv
   have hu:=kind_map ht hk
   refine ⟨by simp [Op.equalIn,run_underlying hu],by simp [Op.equalIn,run_underlying hu],rfl⟩
  ·cases h
 ·split at h
  ·rename_i hk
   cases h
   rw [hk] at hfit
   obtain rfl:=nilFit_func hfit
   obtain ⟨rfl,-⟩:=hx.val_inv
   obtain ⟨rfl,-⟩:=hy.val_inv
   obtain ⟨p,r,vv,hu⟩:=kind_func ht hk
   refine ⟨by simp [Op.equalIn,run_underlying hu],by simp [Op.equalIn,run_underlying hu],rfl⟩
  ·cases h
 ·split at h
  ·rename_i hk
   cases h
   rw [hk] at hfit
   obtain rfl:=nilFit_func hfit
   obtain ⟨us,hv0,-⟩:=hx.fn_inv
   obtain ⟨t1,p1,q1,e1⟩:=fnV_func _ us.toArray
   rw [e1] at hv0
   subst hv0
   obtain ⟨rfl,-⟩:=hy.val_inv
   obtain ⟨p,r,vv,hu⟩:=kind_func ht hk
   refine ⟨by simp [Op.equalIn,run_underlying hu],by simp [Op.equalIn,run_underlying hu],rfl⟩
  ·cases h
 ·split at h
  ·rename_i e k by_ zr hk
   cases h
   rw [hk] at hfit
   obtain rfl:=nilFit_slice hfit
   obtain rfl:=hx.nilsl_inv
   obtain rfl:=hy.nilsl_inv
   obtain ⟨hu,-⟩:=slice_get ht hk
   refine ⟨by simp [Op.equalIn,run_underlying hu],by simp [Op.equalIn,run_underlying hu],rfl⟩
  ·cases h
 ·rename_i m kk cs own
  split at h
  ·rename_i e k by_ zr hk
   cases h
   rw [hk] at hfit
   obtain rfl:=nilFit_slice hfit
   obtain ⟨a,b',off,cap,us,rfl,c1,c2,c3,c4,c5,c6⟩:=hx.sl_inv
   obtain rfl:=c4 (by omega)
   obtain rfl:=hy.nilsl_inv
   obtain ⟨hu,-⟩:=slice_get ht hk
   refine ⟨by simp [Op.equalIn,run_underlying hu],by simp [Op.equalIn,run_underlying hu],rfl⟩
  ·cases h
 ·rename_i id o m kk
  split at h
  ·rename_i e k by_ zr hk
   cases h
   rw [hk] at hfit
   obtain rfl:=nilFit_slice hfit
   obtain ⟨a,cap,rfl,c1,c2,c4⟩:=hx.msl_inv
   obtain ⟨g,-,rfl⟩:=c4 (by omega)
   obtain rfl:=hy.nilsl_inv
   obtain ⟨hu,-⟩:=slice_get ht hk
   refine ⟨by simp [Op.equalIn,run_underlying hu],by simp [Op.equalIn,run_underlying hu],rfl⟩
  ·cases h
 ·cases h
theorem veq_now {t:TypeId} {ki:TyI} (ht:tyI P t=some ki) {k:SK} (hk:skT ki.kind=some k) {kv:Value} (hko:keyOK ki.kind kv=true):∃dd,P.underlying t=some dd∧(∀k' b,veq k kv k' = some b→Instr.sameNow dd kv k' = some b)∧∀n e,(Instr.checkKey e (n+1) t kv).run P w = .ok () w:=by
 cases hd:ki.kind with
 |int ik=>
  have hu:=kind_int ht hd
  rw [hd] at hk hko
  cases hk
  cases kv<;>simp [keyOK] at hko
  subst hko
  refine ⟨_,hu,fun k' b h=>?_,fun n e=>?_⟩
  ·cases k' <;> simp [veq] at h
   simp [Instr.sameNow,h]
  ·simp [Instr.checkKey,run_underlying hu]
 |str=>
  have hu:=kind_str ht hd
  rw [hd] at hk hko
  cases hk
  cases kv<;>simp [keyOK] at hko
  refine ⟨_,hu,fun k' b h=>?_,fun n e=>?_⟩
  ·cases k' <;> simp [veq] at h
   simp [Instr.sameNow,h]
  ·simp [Instr.checkKey,run_underlying hu]
 |bool=>
  obtain ⟨i,d,z,h1,h2,h3,h4,-,h6⟩:=tyI_parts ht
  rw [h6] at hd
  simp only at hd
  have hd' : d = .bool:=by
   cases d with
   |bool=>rfl
   |slice e=>simp only [tdOf] at hd;split at hd<;>(try split at hd)<;>(try split at hd)<;>cases hd
   |struct fs=>simp only [tdOf] at hd;split at hd<;>cases hd
   |array n e=>simp only [tdOf] at hd;split at hd<;>cases hd
   |pointer e=>simp only [tdOf] at hd;split at hd<;>(try split at hd)<;>cases hd
   |_=>cases hd
  subst hd'
  have hd2:ki.kind = .bool:=by rw [h6];exact hd
  rw [hd2] at hk hko
  cases hk
  cases kv<;>simp [keyOK] at hko
  refine ⟨_,h2,fun k' b h=>?_,fun n e=>?_⟩
  ·cases k' <;> simp [veq] at h
   simp [Instr.sameNow,h]
  ·simp [Instr.checkKey,run_underlying h2]
 |_=>rw [hd] at hk;cases hk
def EntsR (Φ:Imm) (μ:Nat→Option Nat) (es:List (Nat×PV×PV)) (ents:Array MapEntry):Prop:=ents.size=es.length∧∀(j:Nat) s k c,es[j]? = some (s,k,c)→∃e,ents[j]? = some e∧e.born=s∧Rep Φ μ k e.key∧Rep Φ μ c e.val
theorem mfind_lt {k:SK} {kv:Value} : ∀(es:List (Nat×PV×PV)) (i j:Nat),mfind k kv es i=some (some j)→i≤j∧j < i+es.length
 | [],i,j,h=>by simp [mfind] at h
 |(s,kp,c) :: es,i,j,h=>by
  have go:mfind k kv es (i+1)=some (some j)→i≤j∧j < i+(es.length+1):=fun h=>by have:=mfind_lt es (i+1) j h;omega
  cases kp<;>simp only [mfind] at h<;>try (cases h;done)
  split at h
  ·cases h;simp
  ·simpa using go h
  ·cases h
theorem mfind_sound {dd:TypeDesc} {k:SK} {kv:Value} (hs:∀k' b,veq k kv k' = some b→Instr.sameNow dd kv k' = some b):∀(es:List (Nat×PV×PV)) (ents:List MapEntry) (i:Nat) (r:Option Nat),ents.length=es.length →
  (∀(j:Nat) s kk c,es[j]? = some (s,kk,c)→∃e,ents[j]? = some e∧e.born=s∧Rep Φ μ kk e.key∧Rep Φ μ c e.val)→mfind k kv es i=some r→match r with
   |none=>Instr.findNow dd kv ents i=some none
   |some j=>∃e,ents[j - i]? = some e∧Instr.findNow dd kv ents i=some (some (j,e.val))
 | [],ents,i,r,hl,_,h=>by
  obtain rfl:ents = []:=List.eq_nil_of_length_eq_zero (by simpa using hl)
  simp [mfind] at h;subst h
  simp [Instr.findNow]
 |(s,kp,c) :: es,[],i,r,hl,_,h=>by simp at hl
 |(s,kp,c) :: es,e :: ents,i,r,hl,hr,h=>by
  obtain ⟨e',he',-,hk,hc⟩:=hr 0 s kp c rfl
  simp at he'
  subst he'
  cases kp<;>simp only [mfind] at h<;>try (cases h;done)
  rename_i kvv
  obtain ⟨hkk,-⟩:=hk.val_inv
  split at h
  ·rename_i hv
   cases h
   refine ⟨e,by simp,?_⟩
   rw [Instr.findNow,hkk,hs _ _ hv]
  ·rename_i hv
   have ih:=mfind_sound hs es ents (i+1) r (by simpa using hl) (fun j s kk c hj=>by simpa using hr (j+1) s kk c (by simpa using hj)) h
   cases r with
   |none=>simp only at ih ⊢; rw [Instr.findNow,hkk,hs _ _ hv];exact ih
   |some j=>
    obtain ⟨e',h1,h2⟩:=ih
    have hlt:=(mfind_lt es _ _ h).1
    refine ⟨e',?_,?_⟩
    ·rw [show j - i=(j - (i+1))+1 by omega];simpa using h1
    ·rw [Instr.findNow,hkk,hs _ _ hv];exact h2
  ·cases h
theorem find_run {t:TypeId} {ki:TyI} (ht:tyI P t=some ki) {k:SK} (hk:skT ki.kind=some k) {kv:Value} (hko:keyOK ki.kind kv=true) {es:List (Nat×PV×PV)} {ents:Array MapEntry} (hE:EntsR Φ μ es ents) {r:Option Nat} (h:mfind k kv es 0=some r) :
  (∀e,(Instr.checkKey e 10000 t kv).run P w = .ok () w)∧match r with
   |none=>(Instr.findKey t kv ents.toList).run P w = .ok none w
   |some j=>∃s kk c e,es[j]? = some (s,kk,c)∧ents[j]? = some e∧e.born=s∧Rep Φ μ kk e.key∧Rep Φ μ c e.val∧kk = .val e.key∧veq k kv e.key=some true∧(Instr.findKey t kv ents.toList).run P w = .ok (some (j,e.val)) w:=by
 obtain ⟨dd,hu,hs,hck⟩:=veq_now (w:=w) ht hk hko
 refine ⟨fun e=>hck 9999 e,?_⟩
 have hm:=mfind_sound hs es ents.toList 0 r (by simpa using hE.1) (fun j s kk c hj=>by simpa using hE.2 j s kk c hj) h
 cases r with
 |none=>
  simp only at hm ⊢
  simp [Instr.findKey,run_underlying hu,hm]
 |some j=>
  obtain ⟨e,h1,h2⟩:=hm
  have hlt:=mfind_lt es _ _ h
  have hj:es[j]? = some es[j]:=by simp
  obtain ⟨e',q1,q2,q3,q4⟩:=hE.2 j es[j].1 es[j].2.1 es[j].2.2 hj
  simp only [Nat.sub_zero,Array.getElem?_toList] at h1
  rw [q1] at h1;cases h1
  have hkey:∀(es:List (Nat×PV×PV)) (i j:Nat),mfind k kv es i=some (some j)→∃s k' c,es[j - i]? = some (s, .val k',c)∧veq k kv k' = some true:=by
   intro es
   induction es with
   |nil=>intro i j h;simp [mfind] at h
   |cons x es ih=>
    intro i j h
    obtain ⟨s,kp,c⟩:=x
    cases kp<;>simp only [mfind] at h<;>try (cases h;done)
    split at h
    ·rename_i hv;cases h;exact ⟨s,_,c,by simp,hv⟩
    ·obtain ⟨s',k',c',e1,e2⟩:=ih _ _ h
     have:=(mfind_lt es _ _ h).1
     exact ⟨s',k',c',by rw [show j - i=(j - (i+1))+1 by omega];simpa using e1,e2⟩
    ·cases h
  obtain ⟨s',k',c',e1,e2⟩:=hkey es 0 j h
  rw [Nat.sub_zero,hj,Option.some.injEq] at e1
  have ek:es[j].2.1 = .val k':=by rw [e1]
  have q3':=q3
  rw [ek] at q3'
  obtain ⟨ev,-⟩:=q3'.val_inv
  refine ⟨es[j].1,es[j].2.1,es[j].2.2,e,hj,q1,q2,q3,q4,by rw [ek,ev],by rw [ev];exact e2,?_⟩
  simp [Instr.findKey,run_underlying hu,h2]
theorem zeroPV_sound {t:TypeId} {ti:TyI} (ht:tyI P t=some ti) {z:PV} (h:zeroPV ti=some z):∃v,(zeroValue t).run P w = .ok v w∧Rep Φ μ z v:=by
 obtain ⟨i,zv,h1,h3,h4,h5⟩:=tyI_agg ht
 refine ⟨zv,by simp [zeroValue,typeInfo,h1,h3],?_⟩
 simp only [zeroPV,h5] at h
 have hr:RepL Φ μ (zv.cells.toList.map pv0) zv.cells.toList:=repL_pv0 _
 cases zv with
 |agg cs=>
  rw [←h4] at h
  simp only [isAggV,if_true,Option.some.injEq] at h
  subst h
  simpa [Value.cells] using hr.agg
 |_=>
  rw [←h4] at h
  simp [isAggV,Value.cells] at h
  subst h
  exact rep_pv0 _
theorem pents_sound (h:RelG Φ0 W M Φ μ ω σ a w) {x:PV} {v:Value} (hx:Rep Φ μ x v) {es:List (Nat×PV×PV)} (hp:pents σ.m x=some es) :
  ∃ents:Array MapEntry,EntsR Φ μ es ents∧((v = .map none∧ents = #[])∨∃g clock,v = .map (some g)∧w.heap[g]? = some (.map ents clock)):=by
 unfold pents at hp
 split at hp
 ·rename_i id
  split at hp
  ·rename_i es' clock hm
   cases hp
   obtain ⟨g,hg,rfl⟩:=hx.mref_inv
   obtain ⟨g',k1,k2,k3,k4,-,ents,k5,k6,k7⟩:=h.map id _ hm
   rw [hg] at k1;cases k1
   exact ⟨ents,⟨k6,fun j s k c hj=>by obtain ⟨e,e1,e2,e3,e4,-⟩:=k7 j s k c hj;exact ⟨e,e1,e2,e3,e4⟩⟩, .inr ⟨g,clock,rfl,k5⟩⟩
  ·cases hp
 ·cases hp
  obtain ⟨rfl,-⟩:=hx.val_inv
  exact ⟨#[],⟨rfl,fun j s k c hj=>by simp at hj⟩, .inl ⟨rfl,rfl⟩⟩
 ·cases hp
theorem plookup_sound (hT:T=tabOf P) (h:RelG Φ0 W M Φ μ ω σ a w) {t:TypeId} {ti:TyI} (ht:tyI P t=some ti) {x k c:PV} {b:Bool} {v kv:Value} (hx:Rep Φ μ x v) (hk:Rep Φ μ k kv) (hp:plookup T σ.m ti.kind x k=some (c,b)) (ok:Bool) :
  ∃u,(Instr.lookup t v kv ok).run P w = .ok (if ok then .tuple #[u, .bool b] else u) w∧Rep Φ μ c u∧c.ownB=false:=by
 unfold plookup at hp
 split at hp
 case h_2=>cases hp
 rename_i kt et kv' hkind
 obtain ⟨rfl,-⟩:=hk.val_inv
 have hu:=kind_map ht hkind
 split at hp
 case h_2=>cases hp
 rename_i ki ei es hki hei hes
 obtain ⟨ents,hE,hv⟩:=pents_sound h hx hes
 have hrun:∀(o:Option (Nat×Value)) u,(∀e,(Instr.checkKey e 10000 kt kv).run P w = .ok () w)→(Instr.findKey kt kv ents.toList).run P w = .ok o w→(match o with|some (_,x)=>u=x∧b=true|none=>(zeroValue et).run P w = .ok u w∧b=false) →
   (Instr.lookup t v kv ok).run P w = .ok (if ok then .tuple #[u, .bool b] else u) w:=by
  intro o u k1 k2 k3
  rcases hv with ⟨rfl,rfl⟩|⟨g,clock,rfl,hg⟩
  ·simp only [Array.toList] at k2
   cases o with
   |none=>simp only at k3;obtain ⟨k3,rfl⟩:=k3;simp only [Instr.lookup,Sem.run_bind,run_underlying hu,Result.andThen_ok,Sem.run_pure,k1,k2,k3]
   |some o=>simp only at k3;obtain ⟨rfl,rfl⟩:=k3;simp only [Instr.lookup,Sem.run_bind,run_underlying hu,Result.andThen_ok,Sem.run_pure,k1,k2]
  ·cases o with
   |none=>simp only at k3;obtain ⟨k3,rfl⟩:=k3;simp only [Instr.lookup,Sem.run_bind,run_underlying hu,Result.andThen_ok,Sem.run_pure,(Go.run_getObj_map (P:=P) (w:=w) _ _ _ hg),k1,k2,k3]
   |some o=>simp only at k3;obtain ⟨rfl,rfl⟩:=k3;simp only [Instr.lookup,Sem.run_bind,run_underlying hu,Result.andThen_ok,Sem.run_pure,(Go.run_getObj_map (P:=P) (w:=w) _ _ _ hg),k1,k2]
 have hkt:=tab_at hT hki
 have het:=tab_at hT hei
 unfold mget at hp
 split at hp
 case isFalse=>cases hp
 rename_i hko
 split at hp
 case h_2=>cases hp
 rename_i sk hsk
 split at hp
 ·rename_i j hm
  obtain ⟨h1,s,kk,c',e,q1,q2,q3,q4,q5,q6,q7,q8⟩:=find_run (w:=w) hkt hsk hko hE hm
  rw [q1] at hp
  cases hp
  exact ⟨e.val,hrun _ _ h1 q8 ⟨rfl,rfl⟩,q5.bare,PV.bare_own _⟩
 ·rename_i hm
  obtain ⟨h1,h2⟩:=find_run (w:=w) hkt hsk hko hE hm
  obtain ⟨z,hz,hzz⟩:=Option.map_eq_some_iff.1 hp
  cases hzz
  obtain ⟨u,r1,r2⟩:=zeroPV_sound (w:=w) (Φ:=Φ) (μ:=μ) het hz
  exact ⟨u,hrun _ _ h1 h2 ⟨r1,rfl⟩,r2.bare,PV.bare_own _⟩
 ·cases hp
theorem pmaxL_sound (mx:Bool):∀(ps:List PV) (vs:List Value) (k:IntKind) (n:Int) (p:PV),RepL Φ μ ps vs→pmaxL mx k n ps=some p→∃r,(vs.foldlM (if mx then Builtin.max2 else Builtin.min2) (.int k n)).run P w = .ok r w∧Rep Φ μ p r∧p.ownB=false
 | [],vs,k,n,p,hr,h=>by
  obtain rfl:vs = []:=List.eq_nil_of_length_eq_zero (by simpa using hr.1)
  simp [pmaxL] at h;subst h
  exact ⟨.int k n,by simp, .val _ rfl,rfl⟩
 |q :: ps,[],k,n,p,hr,h=>by have:=hr.1;simp at this
 |q :: ps,v :: vs,k,n,p,hr,h=>by
  have h0:=hr.2 0 q v rfl rfl
  have ht:RepL Φ μ ps vs:=⟨by simpa using hr.1,fun j c u h1 h2=>hr.2 (j+1) c u (by simpa using h1) (by simpa using h2)⟩
  cases q with
  |val u=>
   obtain ⟨rfl,-⟩:=h0.val_inv
   cases v with
   |int k' y=>
    simp only [pmaxL] at h
    obtain ⟨r,r1,r2⟩:=pmaxL_sound mx ps vs k _ p ht h
    refine ⟨r,?_,r2⟩
    rw [List.foldlM_cons]
    cases mx
    ·simp only [Bool.false_eq_true,if_false,Sem.run_bind] at r1 ⊢
     rw [show (Builtin.min2 (.int k n) (.int k' y)).run P w = .ok (.int k (if y < n then y else n)) w by simp [Builtin.min2]]
     exact r1
    ·simp only [if_true,Sem.run_bind] at r1 ⊢
     rw [show (Builtin.max2 (.int k n) (.int k' y)).run P w = .ok (.int k (if y > n then y else n)) w by simp [Builtin.max2]]
     exact r1
   |_=>simp [pmaxL] at h
  |_=>simp [pmaxL] at h
theorem pmax_sound (mx:Bool) {ps:List PV} {vs:List Value} {p:PV} (hr:RepL Φ μ ps vs) (h:pmax mx ps=some p) (at_:Array TypeId) (ty:TypeId):∃r,(if mx then Builtin.max_ at_ ty vs.toArray else Builtin.min_ at_ ty vs.toArray).run P w = .ok r w∧Rep Φ μ p r∧p.ownB=false:=by
 unfold pmax at h
 split at h
 ·rename_i k n r
  cases vs with
  |nil=>have:=hr.1;simp at this
  |cons v vs=>
   obtain ⟨rfl,-⟩:=(hr.2 0 _ v rfl rfl).val_inv
   have ht:RepL Φ μ r vs:=⟨by simpa using hr.1,fun j c u h1 h2=>hr.2 (j+1) c u (by simpa using h1) (by simpa using h2)⟩
   obtain ⟨x,r1,r2⟩:=pmaxL_sound (P:=P) (w:=w) mx r vs k n p ht h
   refine ⟨x,?_,r2⟩
   cases mx
   ·simpa [Builtin.min_] using r1
   ·simpa [Builtin.max_] using r1
 ·cases h
theorem pcmpN_sound {t:TypeId} {ti:TyI} (ht:tyI P t=some ti) {x y:PV} {v n:Value} (hx:Rep Φ μ x v) (hy:Rep Φ μ y n) {b:Bool} (h:pcmpN ti.kind x y=some b) :
  (binOp .eql t v n).run P w = .ok (.bool b) w∧(binOp .neq t v n).run P w = .ok (.bool !b) w∧∀op a b,(eqGuard op t a b v n).run P w = .ok () w:=by
 unfold pcmpN at h
 split at h
 ·rename_i hf
  obtain ⟨h1,h2,h3⟩:=pnil_sound (w:=w) ht hx hy h hf 9999
  have h1' : (Op.equal t v n).run P w = .ok b w:=h1
  obtain ⟨k1,k2,k3,k4⟩:=binOp_no (n:=n) h3 t
  exact ⟨by rw [k1];simp [h1'],by rw [k3];simp [h1'],fun op a b=>(eqGuard_no h3 op t a b).1⟩
 ·split at h
  ·rename_i hf
   obtain ⟨h1,h2,h3⟩:=pnil_sound (w:=w) ht hy hx h hf 9999
   have h2' : (Op.equal t v n).run P w = .ok b w:=h2
   obtain ⟨k1,k2,k3,k4⟩:=binOp_no (n:=v) h3 t
   exact ⟨by rw [k2];simp [h2'],by rw [k4];simp [h2'],fun op a b=>(eqGuard_no h3 op t a b).2⟩
  ·cases h
theorem pentry_sound (h:RelG Φ0 W M Φ μ ω σ a w) {x k c:PV} {v:Value} (hx:Rep Φ μ x v) (hp:pentryAt σ.m x=some (k,c)):∃ku cu,(Instr.entry v).run P w = .ok (.tuple #[ku,cu]) w∧Rep Φ μ k ku∧Rep Φ μ c cu:=by
 unfold pentryAt at hp
 split at hp
 case h_2=>cases hp
 rename_i id
 split at hp
 case h_2=>cases hp
 rename_i mid since seen last hit
 split at hp
 case h_2=>cases hp
 rename_i es clock hmp
 split at hp
 case isFalse=>cases hp
 rename_i hcl
 subst hcl
 split at hp
 case h_2=>cases hp
 rename_i s hs
 obtain ⟨e,he,hkc⟩:=Option.map_eq_some_iff.1 hp
 cases hkc
 obtain ⟨g,hg,rfl⟩:=hx.ptr_inv
 obtain ⟨g',k1,k2,k3,k4,gm,k5,k6⟩:=h.map id _ hit
 rw [hg] at k1;cases k1
 obtain ⟨gm',m1,m2,m3,m4,-,ents,m5,m6,m7⟩:=h.map mid _ hmp
 rw [k5] at m1;cases m1
 have hit' : (getObj g).run P w = .ok (.mapIter (some gm) since seen.toArray clock) w:=by simp [getObj,Sem.run,k6]
 have hb:seen.toArray.back? = some s:=by simpa using hs
 have hfind:∃e',ents.find? (fun x=>x.born == s)=some e'∧Rep Φ μ e.2.1 e'.key∧Rep Φ μ e.2.2 e'.val:=by
  have:∀(es:List (Nat×PV×PV)) (ents:List MapEntry),ents.length=es.length→(∀(j:Nat) s k c,es[j]? = some (s,k,c)→∃e,ents[j]? = some e∧e.born=s∧Rep Φ μ k e.key∧Rep Φ μ c e.val)→es.find? (fun e=>e.1 == s)=some e→∃e',ents.find? (fun x=>x.born == s)=some e'∧Rep Φ μ e.2.1 e'.key∧Rep Φ μ e.2.2 e'.val:=by
   intro es
   induction es with
   |nil=>intro ents _ _ hh;simp at hh
   |cons x es ih=>
    intro ents hl hr hh
    cases ents with
    |nil=>simp at hl
    |cons y ents=>
     obtain ⟨e0,q1,q2,q3,q4⟩:=hr 0 x.1 x.2.1 x.2.2 rfl
     simp at q1
     subst q1
     rw [List.find?_cons] at hh ⊢
     rw [q2]
     split at hh
     ·rename_i hb
      cases hh
      exact ⟨_,rfl,q3,q4⟩
     ·rename_i hb
      exact ih ents (by simpa using hl) (fun j s k c hj=>by simpa using hr (j+1) s k c (by simpa using hj)) hh
  obtain ⟨e',r1,r2⟩:=this es ents.toList (by simpa using m6) (fun j s k c hj=>by obtain ⟨e,e1,e2,e3,e4,-⟩:=m7 j s k c hj;exact ⟨e,by simpa using e1,e2,e3,e4⟩) he
  exact ⟨e',by simpa using r1,r2⟩
 obtain ⟨e',r1,r2,r3⟩:=hfind
 refine ⟨e'.key,e'.val,?_,r2.bare,r3.bare⟩
 simp only [Instr.entry,Sem.run_bind,hit',Result.andThen_ok,hb,(Go.run_getObj_map (P:=P) (w:=w) _ _ _ m5),bne_self_eq_false,Bool.false_eq_true,if_false,r1,Sem.run_pure]
theorem pvalX_sound (hT:T=tabOf P) (h:RelG Φ0 W M Φ μ ω σ a w) (o:Oper) {p:PV} (hp:pvalX T σ o.op=some p) :
  ∃v,(execOp a.eval o).run P w = .ok (.value v) w∧Rep Φ μ p v∧p.ownB=false:=by
 obtain ⟨dst,op,ty,pos,after,guard⟩:=o
 simp only at hp
 unfold pvalX at hp
 split at hp
 ·rename_i x
  have hx:=h.ev x
  split at hp
  ·rename_i id off e
   cases hp
   rw [e] at hx
   obtain ⟨g,hg,hv⟩:=hx.ptr_inv
   exact ⟨a.eval x,by simp only [execOp,hv,Sem.run_pure],hx,rfl⟩
  ·rename_i cs off e
   cases hp
   rw [e] at hx
   obtain ⟨b,o',us,hv,-⟩:=hx.ep_inv
   exact ⟨a.eval x,by simp only [execOp,hv,Sem.run_pure],hx,rfl⟩
  ·rename_i f cs e
   cases hp
   rw [e] at hx
   obtain ⟨us,hv,-⟩:=hx.fn_inv
   obtain ⟨t1,p1,q1,e1⟩:=fnV_func f us.toArray
   rw [e1] at hv
   exact ⟨a.eval x,by simp only [execOp,hv,Sem.run_pure],hx,rfl⟩
  ·cases hp
 ·rename_i op t x y yt
  split at hp
  case h_2=>cases hp
  rename_i ti ht
  split at hp
  ·obtain ⟨b,hb,rfl⟩:=Option.map_eq_some_iff.1 hp
   obtain ⟨r1,r1',r2⟩:=pcmpN_sound (P:=P) (w:=w) (tab_at hT ht) (h.ev x) (h.ev y) hb
   refine ⟨.bool b,?_, .val _ rfl,rfl⟩
   simp only [execOp,Sem.run_bind,r2,Result.andThen_ok,r1,r1',Sem.run_pure]
  ·obtain ⟨b,hb,rfl⟩:=Option.map_eq_some_iff.1 hp
   obtain ⟨r1,r1',r2⟩:=pcmpN_sound (P:=P) (w:=w) (tab_at hT ht) (h.ev x) (h.ev y) hb
   refine ⟨.bool !b,?_, .val _ rfl,rfl⟩
   simp only [execOp,Sem.run_bind,r2,Result.andThen_ok,r1,r1',Sem.run_pure]
  ·cases hp
 ·rename_i t x k ok
  split at hp
  case h_2=>cases hp
  rename_i ti ht
  split at hp
  case h_2=>cases hp
  rename_i c b hl
  obtain ⟨u,r1,r2,r3⟩:=plookup_sound hT h (tab_at hT ht) (h.ev x) (h.ev k) hl ok
  cases ok with
  |true=>
   simp only [if_true,Option.some.injEq] at hp r1
   subst hp
   refine ⟨.tuple #[u, .bool b],by simp [execOp,r1],?_,rfl⟩
   have:=(RepL.cons r2 (RepL.cons (Rep.val (Φ:=Φ) (μ:=μ) (.bool b) rfl) RepL.nil)).tup
   simpa using this
  |false=>
   simp only [Bool.false_eq_true,if_false,Option.some.injEq] at hp r1
   subst hp
   exact ⟨u,by simp [execOp,r1],r2,r3⟩
 ·rename_i it
  split at hp
  case h_2=>cases hp
  rename_i k c he
  cases hp
  obtain ⟨ku,cu,r1,r2,r3⟩:=pentry_sound (P:=P) h (h.ev it) he
  refine ⟨.tuple #[ku,cu],by simp [execOp,r1],?_,rfl⟩
  have:=(RepL.cons r2 (RepL.cons r3 RepL.nil)).tup
  simpa using this
 ·rename_i t x
  have hx:=h.ev x
  split at hp
  case h_2=>cases hp
  rename_i ti ht
  split at hp
  case h_2=>cases hp
  rename_i n e k ag hk
  obtain ⟨hu,-⟩:=arr_get (tab_at hT ht) hk
  split at hp
  ·rename_i id off m k' ex
   split at hp
   ·rename_i hc
    cases hp
    rw [ex] at hx
    obtain ⟨ad,cap,hv,-,-,hg⟩:=hx.msl_inv
    obtain ⟨g,hg1,rfl⟩:=hg hc.2
    exact ⟨.pointer (some ⟨g,off,none⟩),by simp [execOp,Instr.arrayAt,run_underlying hu,hv,Nat.not_lt.2 hc.1], .ptr _ _ g hg1,rfl⟩
   ·cases hp
  ·rename_i m k' cs own ex
   split at hp
   ·rename_i hc
    cases hp
    rw [ex] at hx
    obtain ⟨ad,b,o',cap,us,hv,-,-,-,ha,hp1,hp2⟩:=hx.sl_inv
    rw [ha hc.2] at hv
    exact ⟨.pointer (some ⟨b,o' + 0,none⟩),by simp [execOp,Instr.arrayAt,run_underlying hu,hv,Nat.not_lt.2 hc.1], .ep cs 0 b o' us hp1 hp2,rfl⟩
   ·cases hp
  ·cases hp
 ·rename_i c
  obtain ⟨callee,args,argTypes⟩:=c
  simp only at hp
  have hargs:RepL Φ μ (args.toList.map (pev σ)) (args.toList.map a.eval):=by
   refine ⟨by simp,fun j c u h1 h2=>?_⟩
   rw [List.getElem?_map] at h1 h2
   obtain ⟨x,hx,rfl⟩:=Option.map_eq_some_iff.1 h1
   rw [hx] at h2
   simp at h2
   subst h2
   exact h.ev x
  have hae:(args.toList.map a.eval).toArray=args.map a.eval:=by rw [←Array.toList_map,Array.toArray_toList]
  split at hp
  ·split at hp
   case h_2=>cases hp
   rename_i x t ea et
   obtain rfl:args = #[x]:=by rw [←Array.toArray_toList (xs:=args),ea]
   obtain rfl:argTypes = #[t]:=by rw [←Array.toArray_toList (xs:=argTypes),et]
   split at hp
   case h_2=>cases hp
   rename_i ti ht
   split at hp
   case h_2=>cases hp
   rename_i kt et hk
   obtain ⟨es,hes,rfl⟩:=Option.map_eq_some_iff.1 hp
   obtain ⟨ents,hE,hv⟩:=pents_sound h (h.ev x) hes
   have hu:=kind_map (tab_at hT ht) hk
   refine ⟨.int .i64 es.length,?_, .val _ rfl,rfl⟩
   rcases hv with ⟨hv,rfl⟩|⟨g,clock,hv,hg⟩
   ·have h0:es.length=0:=by have:=hE.1;simpa using this.symm
    simp [execOp,resolve,invoke,builtin,Builtin.len_,run_underlying hu,hv,goInt,h0]
   ·have h0:=hE.1
    simp only [execOp,resolve,invoke,builtin,Builtin.len_,Sem.run_bind,Sem.run_pure,Result.andThen_ok,List.map_toArray,List.map_cons,List.map_nil,List.getElem?_toArray,List.getElem?_cons_zero,run_underlying hu,hv,(Go.run_getObj_map (P:=P) (w:=w) _ _ _ hg),goInt,h0]
  ·obtain ⟨r,r1,r2⟩:=pmax_sound (P:=P) (w:=w) true hargs hp argTypes ty
   refine ⟨r,?_,r2⟩
   rw [hae] at r1
   simp only [if_true] at r1
   simp only [execOp,resolve,invoke,builtin,Sem.run_bind,Sem.run_pure,Result.andThen_ok,r1]
  ·obtain ⟨r,r1,r2⟩:=pmax_sound (P:=P) (w:=w) false hargs hp argTypes ty
   refine ⟨r,?_,r2⟩
   rw [hae] at r1
   simp only [Bool.false_eq_true,if_false] at r1
   simp only [execOp,resolve,invoke,builtin,Sem.run_bind,Sem.run_pure,Result.andThen_ok,r1]
  ·cases hp
 ·cases hp
theorem pvalA_sound (hT:T=tabOf P) (h:RelG Φ0 W M Φ μ ω σ a w) (o:Oper) {p:PV} (hp:pvalA T σ o.op=some p) :
  ∃v,(execOp a.eval o).run P w = .ok (.value v) w∧Rep Φ μ p v∧p.ownB=false:=by
 unfold pvalA at hp
 split at hp
 ·rename_i q hq
  cases hp
  exact pval_sound hT h o hq
 ·exact pvalX_sound hT h o hp
end
end Go.Proofs.YtmeekbjhpidcgaaDoor
