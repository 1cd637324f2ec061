/- Out of: PwF2, PwI. -/
import Derived.Test.YtoamkpgaaanafaaGreatK1
import Derived.Test.YtoamkpgaaanafaaGreatK2
namespace Go.Proofs.YtoamkpgaaanafaaGreat
set_option linter.unusedSimpArgs false
set_option linter.unusedVariables false
set_option linter.unnecessarySimpa false
section
open Go.RowKit
def isPtrK:TD→Bool
 | .ptr | .parr .. => true
 |_=>false
def pnil (td:TD):PV→Option Bool
 | .val (.pointer none)=>if isPtrK td then some true else none
 | .ptr _ _=>if isPtrK td then some false else none
 | .ep _ _=>if isPtrK td then some false else none
 | .val (.map none)=>match td with
  | .map _ _=>some true
  |_=>none
 | .mref _=>match td with
  | .map _ _=>some false
  |_=>none
 | .val .nilFunc=>match td with
  | .func=>some true
  |_=>none
 | .fn _ _=>match td with
  | .func=>some false
  |_=>none
 | .nilsl=>match td with
  | .slice .. => some true
  |_=>none
 | .sl (_+1) _ _ _=>match td with
  | .slice .. => some false
  |_=>none
 | .msl _ _ (_+1) _=>match td with
  | .slice .. => some false
  |_=>none
 |_=>none
def nilFit:TD→PV→Bool
 | .slice .., .nilsl=>true
 | .map .., .val (.map none)=>true
 | .func, .val .nilFunc=>true
 | .ptr, .val (.pointer none)=>true
 | .parr .., .val (.pointer none)=>true
 |_,_=>false
def pcmpN (td:TD) (x y:PV):Option Bool:=if nilFit td y then pnil td x else if nilFit td x then pnil td y else none
def skT:TD→Option SK
 | .int _=>some .int
 | .bool=>some .bool
 | .str=>some .str
 |_=>none
def keyOK:TD→Value→Bool
 | .int k, .int k' _=>decide (k=k')
 | .bool, .bool _=>true
 | .str, .string _=>true
 |_,_=>false
def mfind (k:SK) (kv:Value):List (Nat×PV×PV)→Nat→Option (Option Nat)
 | [],_=>some none
 |(_, .val k',_) :: es,i=>match veq k kv k' with
  |some true=>some (some i)
  |some false=>mfind k kv es (i+1)
  |none=>none
 |_ :: _,_=>none
def zeroPV (x:TyI):Option PV:=if x.agg then some (.agg x.zero) else x.zero.head?
def mget (ki ei:TyI) (es:List (Nat×PV×PV)) (kv:Value):Option (PV×Bool):=
 if keyOK ki.kind kv then match skT ki.kind with
  |some k=>match mfind k kv es 0 with
   |some (some j)=>match es[j]? with
    |some (_,_,c)=>some (c.bare,true)
    |none=>none
   |some none=>(zeroPV ei).map fun z=>(z.bare,false)
   |none=>none
  |none=>none
 else none
def pents (m:Nat→Option PMap):PV→Option (List (Nat×PV×PV))
 | .mref id=>match m id with
  |some (.map es _)=>some es
  |_=>none
 | .val (.map none)=>some []
 |_=>none
def plookup (T:Tab) (m:Nat→Option PMap) (td:TD) (x:PV) (k:PV):Option (PV×Bool):=
 match td,k with
 | .map kt et, .val kv=>match T.at kt,T.at et,pents m x with
  |some ki,some ei,some es=>mget ki ei es kv
  |_,_,_=>none
 |_,_=>none
def pentryAt (m:Nat→Option PMap):PV→Option (PV×PV)
 | .ptr id 0=>match m id with
  |some (.iter mid _ seen last)=>match m mid with
   |some (.map es clock)=>if clock=last then match seen.getLast? with
    |some s=>(es.find? fun e=>e.1 == s).map fun e=>(e.2.1.bare,e.2.2.bare)
    |none=>none else none
   |_=>none
  |_=>none
 |_=>none
def pmaxL (mx:Bool):IntKind→Int→List PV→Option PV
 |k,n,[]=>some (.val (.int k n))
 |k,n, .val (.int _ y) :: r=>pmaxL mx k (if mx then (if y > n then y else n) else (if y < n then y else n)) r
 |_,_,_=>none
def pmax (mx:Bool):List PV→Option PV
 | .val (.int k n) :: r=>pmaxL mx k n r
 |_=>none
def pvalX (T:Tab) (σ:PS):Op→Option PV
 | .nilCheck x=>match pev σ x with
  | .ptr id off=>some (.ptr id off)
  | .ep cs off=>some (.ep cs off)
  | .fn f cs=>some (.fn f cs)
  |_=>none
 | .binOp op t x y _=>match T.at t with
  |some ti=>match op with
   | .eql=>(pcmpN ti.kind (pev σ x) (pev σ y)).map fun b=>.val (.bool b)
   | .neq=>(pcmpN ti.kind (pev σ x) (pev σ y)).map fun b=>.val (.bool !b)
   |_=>none
  |none=>none
 | .lookup t x k ok=>match T.at t with
  |some ti=>match plookup T σ.m ti.kind (pev σ x) (pev σ k) with
   |some (c,b)=>some (if ok then .tup [c, .val (.bool b)] else c)
   |none=>none
  |none=>none
 | .entry it=>match pentryAt σ.m (pev σ it) with
  |some (k,c)=>some (.tup [k,c])
  |none=>none
 | .sliceToArrayPointer t x=>match T.at t with
  |some ti=>match ti.kind with
   | .arr n _ _ _=>match pev σ x with
    | .msl id off m _=>if n≤m∧0 < m then some (.ptr id off) else none
    | .sl m _ cs _=>if n≤m∧0 < m then some (.ep cs 0) else none
    |_=>none
   |_=>none
  |none=>none
 | .call c=>match c.callee with
  | .builtin .len=>match c.args.toList,c.argTypes.toList with
   | [x],[t]=>match T.at t with
    |some ti=>match ti.kind with
     | .map _ _=>(pents σ.m (pev σ x)).map fun es=>.val (.int .i64 es.length)
     |_=>none
    |none=>none
   |_,_=>none
  | .builtin .max=>pmax true (c.args.toList.map (pev σ))
  | .builtin .min=>pmax false (c.args.toList.map (pev σ))
  |_=>none
 |_=>none
def pvalA (T:Tab) (σ:PS) (op:Op):Option PV:=match pval T σ op with
 |some p=>some p
 |none=>pvalX T σ op
end
section
open Go.RowKit
variable {Φ0:Ent} {W:World} {M:Nat} {Φ:Imm} {μ:Nat→Option Nat} {ω:Nat→Option Who} {σ:PS} {a:Act} {w:World} {P:Program} {T:Tab}
theorem isPtrK_spec {t:TypeId} {ti:TyI} (ht:tyI P t=some ti) (h:isPtrK ti.kind=true):∃e,P.underlying t=some (.pointer e):=by
 cases hk:ti.kind with
 |ptr=>exact kind_ptr ht hk
 |parr n e k=>obtain ⟨t',hu,-⟩:=parr_get ht hk;exact ⟨t',hu⟩
 |_=>rw [hk] at h;simp [isPtrK] at h
theorem nilFit_map {k e:TypeId} {y:PV} (h:nilFit (.map k e) y=true):y = .val (.map none):=by
 unfold nilFit at h;split at h<;>first|rfl|simp_all
theorem nilFit_func {y:PV} (h:nilFit .func y=true):y = .val .nilFunc:=by
 unfold nilFit at h;split at h<;>first|rfl|simp_all
theorem nilFit_slice {e k b:Nat} {z:List PV} {y:PV} (h:nilFit (.slice e k b z) y=true):y = .nilsl:=by
 unfold nilFit at h;split at h<;>first|rfl|simp_all
def noGrd:Value→Bool
 | .pointer _ | .map _ | .func .. | .nilFunc | .slice .. => true
 |_=>false
theorem eqGuard_no {v n:Value} (h:noGrd v=true) (op:BinOp) (t:TypeId) (a b:Operand):(eqGuard op t a b v n).run P w = .ok () w∧(eqGuard op t a b n v).run P w = .ok () w:=by
 constructor
 ·cases v<;>first|(cases h;done)|(cases op<;>rfl)
 ·cases n<;>first|(cases op<;>rfl)|(cases v<;>first|(cases h;done)|(cases op<;>rfl))
theorem binOp_no {v n:Value} (h:noGrd v=true) (t:TypeId):(binOp .eql t v n=do pure (.bool (←Op.equal t v n)))∧(binOp .eql t n v=do pure (.bool (←Op.equal t n v)))∧(binOp .neq t v n=do pure (.bool (!(←Op.equal t v n))))∧(binOp .neq t n v=do pure (.bool (!(←Op.equal t n v)))):=by
 refine ⟨?_,?_,?_,?_⟩
 ·cases v<;>first|(cases h;done)|(cases n<;>rfl)
 ·cases v<;>first|(cases h;done)|(cases n<;>rfl)
 ·cases v<;>first|(cases h;done)|(cases n<;>rfl)
 ·cases v<;>first|(cases h;done)|(cases n<;>rfl)
set_option maxHeartbeats 4000000 in
theorem pnil_sound {t:TypeId} {ti:TyI} (ht:tyI P t=some ti) {x:PV} {v n:Value} {y:PV} (hx:Rep Φ μ x v) (hy:Rep Φ μ y n) {b:Bool} (h:pnil ti.kind x=some b) (hfit:nilFit ti.kind y=true) (d:Nat) :
  (Op.equalIn (d+1) t v n).run P w = .ok b w∧(Op.equalIn (d+1) t n v).run P w = .ok b w∧noGrd v=true:=by
 have ptr:isPtrK ti.kind=true→n = .pointer none∧∃e,P.underlying t=some (.pointer e):=by
  intro hk
  refine ⟨?_,isPtrK_spec ht hk⟩
  unfold nilFit at hfit
  split at hfit
  ·rename_i e;rw [e] at hk;cases hk
  ·rename_i e;rw [e] at hk;cases hk
  ·rename_i e;rw [e] at hk;cases hk
  ·exact hy.val_inv.1
  ·exact hy.val_inv.1
  ·cases hfit
 unfold pnil at h
 split at h
 ·split at h
  ·rename_i hk
   cases h
   obtain ⟨rfl,e,hu⟩:=ptr hk
   obtain ⟨rfl,-⟩:=hx.val_inv
   refine ⟨by simp [Op.equalIn,run_underlying hu],by simp [Op.equalIn,run_underlying hu],rfl⟩
  ·cases h
 ·split at h
  ·rename_i hk
   cases h
   obtain ⟨rfl,e,hu⟩:=ptr hk
   obtain ⟨g,-,rfl⟩:=hx.ptr_inv
   refine ⟨by simp [Op.equalIn,run_underlying hu],by simp [Op.equalIn,run_underlying hu],rfl⟩
  ·cases h
 ·split at h
  ·rename_i hk
   cases h
   obtain ⟨rfl,e,hu⟩:=ptr hk
   obtain ⟨_,_,_,rfl,-⟩:=hx.ep_inv
   refine ⟨by simp [Op.equalIn,run_underlying hu],by simp [Op.equalIn,run_underlying hu],rfl⟩
  ·cases h
 ·split at h
  ·rename_i k e hk
   cases h
   rw [hk] at hfit
   obtain rfl:=nilFit_map hfit
   obtain ⟨rfl,-⟩:=hx.val_inv
   obtain ⟨rfl,-⟩:=hy.val_inv
   have hu:=kind_map ht hk
   refine ⟨by simp [Op.equalIn,run_underlying hu],by simp [Op.equalIn,run_underlying hu],rfl⟩
  ·cases h
 ·split at h
  ·rename_i k e hk
   cases h
   rw [hk] at hfit
   obtain rfl:=nilFit_map hfit
   obtain ⟨g,-,rfl⟩:=hx.mref_inv
   obtain ⟨rfl,-⟩:=hy.val_inv
   have hu:=kind_map ht hk
   refine ⟨by simp [Op.equalIn,run_underlying hu],by simp [Op.equalIn,run_underlying hu],rfl⟩
  ·cases h
 ·split at h
  ·rename_i hk
   cases h
   rw [hk] at hfit
   obtain rfl:=nilFit_func hfit
   obtain ⟨rfl,-⟩:=hx.val_inv
   obtain ⟨rfl,-⟩:=hy.val_inv
   obtain ⟨p,r,vv,hu⟩:=kind_func ht hk
   refine ⟨by simp [Op.equalIn,run_underlying hu],by simp [Op.equalIn,run_underlying hu],rfl⟩
  ·cases h
 ·split at h
  ·rename_i hk
   cases h
   rw [hk] at hfit
   obtain rfl:=nilFit_func hfit
   obtain ⟨us,hv0,-⟩:=hx.fn_inv
   obtain ⟨t1,p1,q1,e1⟩:=fnV_func _ us.toArray
   rw [e1] at hv0
   subst hv0
   obtain ⟨rfl,-⟩:=hy.val_inv
   obtain ⟨p,r,vv,hu⟩:=kind_func ht hk
   refine ⟨by simp [Op.equalIn,run_underlying hu],by simp [Op.equalIn,run_underlying hu],rfl⟩
  ·cases h
 ·split at h
  ·rename_i e k by_ zr hk
   cases h
   rw [hk] at hfit
   obtain rfl:=nilFit_slice hfit
   obtain rfl:=hx.nilsl_inv
   obtain rfl:=hy.nilsl_inv
   obtain ⟨hu,-⟩:=slice_get ht hk
   refine ⟨by simp [Op.equalIn,run_underlying hu],by simp [Op.equalIn,run_underlying hu],rfl⟩
  ·cases h
 ·rename_i m kk cs own
  split at h
  ·rename_i e k by_ zr hk
   cases h
   rw [hk] at hfit
   obtain rfl:=nilFit_slice hfit
   obtain ⟨a,b',off,cap,us,rfl,c1,c2,c3,c4,c5,c6⟩:=hx.sl_inv
   obtain rfl:=c4 (by omega)
   obtain rfl:=hy.nilsl_inv
   obtain ⟨hu,-⟩:=slice_get ht hk
   refine ⟨by simp [Op.equalIn,run_underlying hu],by simp [Op.equalIn,run_underlying hu],rfl⟩
  ·cases h
 ·rename_i id o m kk
  split at h
  ·rename_i e k by_ zr hk
   cases h
   rw [hk] at hfit
   obtain rfl:=nilFit_slice hfit
   obtain ⟨a,cap,rfl,c1,c2,c4⟩:=hx.msl_inv
   obtain ⟨g,-,rfl⟩:=c4 (by omega)
   obtain rfl:=hy.nilsl_inv
   obtain ⟨hu,-⟩:=slice_get ht hk
   refine ⟨by simp [Op.equalIn,run_underlying hu],by simp [Op.equalIn,run_underlying hu],rfl⟩
  ·cases h
 ·cases h
theorem veq_now {t:TypeId} {ki:TyI} (ht:tyI P t=some ki) {k:SK} (hk:skT ki.kind=some k) {kv:Value} (hko:keyOK ki.kind kv=true):∃dd,P.underlying t=some dd∧(∀k' b,veq k kv k' = some b→Instr.sameNow dd kv k' = some b)∧∀n e,(Instr.checkKey e (n+1) t kv).run P w = .ok () w:=by
 cases hd:ki.kind with
 |int ik=>
  have hu:=kind_int ht hd
  rw [hd] at hk hko
  cases hk
  cases kv<;>simp [keyOK] at hko
  subst hko
  refine ⟨_,hu,fun k' b h=>?_,fun n e=>?_⟩
  ·cases k' <;> simp [veq] at h
   simp [Instr.sameNow,h]
  ·simp [Instr.checkKey,run_underlying hu]
 |str=>
  have hu:=kind_str ht hd
  rw [hd] at hk hko
  cases hk
  cases kv<;>simp [keyOK] at hko
  refine ⟨_,hu,fun k' b h=>?_,fun n e=>?_⟩
  ·cases k' <;> simp [veq] at h
   simp [Instr.sameNow,h]
  ·simp [Instr.checkKey,run_underlying hu]
 |bool=>
  obtain ⟨i,d,z,h1,h2,h3,h4,-,h6⟩:=tyI_parts ht
  rw [h6] at hd
  simp only at hd
  have hd' : d = .bool:=by
   cases d with
   |bool=>rfl
   |slice e=>simp only [tdOf] at hd;split at hd<;>(try split at hd)<;>(try split at hd)<;>cases hd
   |struct fs=>simp only [tdOf] at hd;split at hd<;>cases hd
   |array n e=>simp only [tdOf] at hd;split at hd<;>cases hd
   |pointer e=>simp only [tdOf] at hd;split at hd<;>(try split at hd)<;>cases hd
   |_=>cases hd
  subst hd'
  have hd2:ki.kind = .bool:=by rw [h6];exact hd
  rw [hd2] at hk hko
  cases hk
  cases kv<;>simp [keyOK] at hko
  refine ⟨_,h2,fun k' b h=>?_,fun n e=>?_⟩
  ·cases k' <;> simp [veq] at h
   simp [Instr.sameNow,h]
  ·simp [Instr.checkKey,run_underlying h2]
 |_=>rw [hd] at hk;cases hk
def EntsR (Φ:Imm) (μ:Nat→Option Nat) (es:List (Nat×PV×PV)) (ents:Array MapEntry):Prop:=ents.size=es.length∧∀(j:Nat) s k c,es[j]? = some (s,k,c)→∃e,ents[j]? = some e∧e.born=s∧Rep Φ μ k e.key∧Rep Φ μ c e.val
theorem mfind_lt {k:SK} {kv:Value} : ∀(es:List (Nat×PV×PV)) (i j:Nat),mfind k kv es i=some (some j)→i≤j∧j < i+es.length
 | [],i,j,h=>by simp [mfind] at h
 |(s,kp,c) :: es,i,j,h=>by
  have go:mfind k kv es (i+1)=some (some j)→i≤j∧j < i+(es.length+1):=fun h=>by have:=mfind_lt es (i+1) j h;omega
  cases kp<;>simp only [mfind] at h<;>try (cases h;done)
  split at h
  ·cases h;simp
  ·simpa using go h
  ·cases h
theorem mfind_sound {dd:TypeDesc} {k:SK} {kv:Value} (hs:∀k' b,veq k kv k' = some b→Instr.sameNow dd kv k' = some b):∀(es:List (Nat×PV×PV)) (ents:List MapEntry) (i:Nat) (r:Option Nat),ents.length=es.length →
  (∀(j:Nat) s kk c,es[j]? = some (s,kk,c)→∃e,ents[j]? = some e∧e.born=s∧Rep Φ μ kk e.key∧Rep Φ μ c e.val)→mfind k kv es i=some r→match r with
   |none=>Instr.findNow dd kv ents i=some none
   |some j=>∃e,ents[j - i]? = some e∧Instr.findNow dd kv ents i=some (some (j,e.val))
 | [],ents,i,r,hl,_,h=>by
  obtain rfl:ents = []:=List.eq_nil_of_length_eq_zero (by simpa using hl)
  simp [mfind] at h;subst h
  simp [Instr.findNow]
 |(s,kp,c) :: es,[],i,r,hl,_,h=>by simp at hl
 |(s,kp,c) :: es,e :: ents,i,r,hl,hr,h=>by
  obtain ⟨e',he',-,hk,hc⟩:=hr 0 s kp c rfl
  simp at he'
  subst he'
  cases kp<;>simp only [mfind] at h<;>try (cases h;done)
  rename_i kvv
  obtain ⟨hkk,-⟩:=hk.val_inv
  split at h
  ·rename_i hv
   cases h
   refine ⟨e,by simp,?_⟩
   rw [Instr.findNow,hkk,hs _ _ hv]
  ·rename_i hv
   have ih:=mfind_sound hs es ents (i+1) r (by simpa using hl) (fun j s kk c hj=>by simpa using hr (j+1) s kk c (by simpa using hj)) h
   cases r with
   |none=>simp only at ih ⊢; rw [Instr.findNow,hkk,hs _ _ hv];exact ih
   |some j=>
    obtain ⟨e',h1,h2⟩:=ih
    have hlt:=(mfind_lt es _ _ h).1
    refine ⟨e',?_,?_⟩
    ·rw [show j - i=(j - (i+1))+1 by omega];simpa using h1
    ·rw [Instr.findNow,hkk,hs _ _ hv];exact h2
  ·cases h
theorem find_run {t:TypeId} {ki:TyI} (ht:tyI P t=some ki) {k:SK} (hk:skT ki.kind=some k) {kv:Value} (hko:keyOK ki.kind kv=true) {es:List (Nat×PV×PV)} {ents:Array MapEntry} (hE:EntsR Φ μ es ents) {r:Option Nat} (h:mfind k kv es 0=some r) :
  (∀e,(Instr.checkKey e 10000 t kv).run P w = .ok () w)∧match r with
   |none=>(Instr.findKey t kv ents.toList).run P w = .ok none w
   |some j=>∃s kk c e,es[j]? = some (s,kk,c)∧ents[j]? = some e∧e.born=s∧Rep Φ μ kk e.key∧Rep Φ μ c e.val∧kk = .val e.key∧veq k kv e.key=some true∧(Instr.findKey t kv ents.toList).run P w = .ok (some (j,e.val)) w:=by
 obtain ⟨dd,hu,hs,hck⟩:=veq_now (w:=w) ht hk hko
 refine ⟨fun e=>hck 9999 e,?_⟩
 have hm:=mfind_sound hs es ents.toList 0 r (by simpa using hE.1) (fun j s kk c hj=>by simpa using hE.2 j s kk c hj) h
 cases r with
 |none=>
  simp only at hm ⊢
  simp [Instr.findKey,run_underlying hu,hm]
 |some j=>
  obtain ⟨e,h1,h2⟩:=hm
  have hlt:=mfind_lt es _ _ h
  have hj:es[j]? = some es[j]:=by simp
  obtain ⟨e',q1,q2,q3,q4⟩:=hE.2 j es[j].1 es[j].2.1 es[j].2.2 hj
  simp only [Nat.sub_zero,Array.getElem?_toList] at h1
  rw [q1] at h1;cases h1
  have hkey:∀(es:List (Nat×PV×PV)) (i j:Nat),mfind k kv es i=some (some j)→∃s k' c,es[j - i]? = some (s, .val k',c)∧veq k kv k' = some true:=by
   intro es
   induction es with
   |nil=>intro i j h;simp [mfind] at h
   |cons x es ih=>
    intro i j h
    obtain ⟨s,kp,c⟩:=x
    cases kp<;>simp only [mfind] at h<;>try (cases h;done)
    split at h
    ·rename_i hv;cases h;exact ⟨s,_,c,by simp,hv⟩
    ·obtain ⟨s',k',c',e1,e2⟩:=ih _ _ h
     have:=(mfind_lt es _ _ h).1
     exact ⟨s',k',c',by rw [show j - i=(j - (i+1))+1 by omega];simpa using e1,e2⟩
    ·cases h
  obtain ⟨s',k',c',e1,e2⟩:=hkey es 0 j h
  rw [Nat.sub_zero,hj,Option.some.injEq] at e1
  have ek:es[j].2.1 = .val k':=by rw [e1]
  have q3':=q3
  rw [ek] at q3'
  obtain ⟨ev,-⟩:=q3'.val_inv
  refine ⟨es[j].1,es[j].2.1,es[j].2.2,e,hj,q1,q2,q3,q4,by rw [ek,ev],by rw [ev];exact e2,?_⟩
  simp [Instr.findKey,run_underlying hu,h2]
theorem zeroPV_sound {t:TypeId} {ti:TyI} (ht:tyI P t=some ti) {z:PV} (h:zeroPV ti=some z):∃v,(zeroValue t).run P w = .ok v w∧Rep Φ μ z v:=by
 obtain ⟨i,zv,h1,h3,h4,h5⟩:=tyI_agg ht
 refine ⟨zv,by simp [zeroValue,typeInfo,h1,h3],?_⟩
 simp only [zeroPV,h5] at h
 have hr:RepL Φ μ (zv.cells.toList.map pv0) zv.cells.toList:=repL_pv0 _
 cases zv with
 |agg cs=>
  rw [←h4] at h
  simp only [isAggV,if_true,Option.some.injEq] at h
  subst h
  simpa [Value.cells] using hr.agg
 |_=>
  rw [←h4] at h
  simp [isAggV,Value.cells] at h
  subst h
  exact rep_pv0 _
theorem pents_sound (h:RelG Φ0 W M Φ μ ω σ a w) {x:PV} {v:Value} (hx:Rep Φ μ x v) {es:List (Nat×PV×PV)} (hp:pents σ.m x=some es) :
  ∃ents:Array MapEntry,EntsR Φ μ es ents∧((v = .map none∧ents = #[])∨∃g clock,v = .map (some g)∧w.heap[g]? = some (.map ents clock)):=by
 unfold pents at hp
 split at hp
 ·rename_i id
  split at hp
  ·rename_i es' clock hm
   cases hp
   obtain ⟨g,hg,rfl⟩:=hx.mref_inv
   obtain ⟨g',k1,k2,k3,k4,-,ents,k5,k6,k7⟩:=h.map id _ hm
   rw [hg] at k1;cases k1
   exact ⟨ents,⟨k6,fun j s k c hj=>by obtain ⟨e,e1,e2,e3,e4,-⟩:=k7 j s k c hj;exact ⟨e,e1,e2,e3,e4⟩⟩, .inr ⟨g,clock,rfl,k5⟩⟩
  ·cases hp
 ·cases hp
  obtain ⟨rfl,-⟩:=hx.val_inv
  exact ⟨#[],⟨rfl,fun j s k c hj=>by simp at hj⟩, .inl ⟨rfl,rfl⟩⟩
 ·cases hp
theorem plookup_sound (hT:T=tabOf P) (h:RelG Φ0 W M Φ μ ω σ a w) {t:TypeId} {ti:TyI} (ht:tyI P t=some ti) {x k c:PV} {b:Bool} {v kv:Value} (hx:Rep Φ μ x v) (hk:Rep Φ μ k kv) (hp:plookup T σ.m ti.kind x k=some (c,b)) (ok:Bool) :
  ∃u,(Instr.lookup t v kv ok).run P w = .ok (if ok then .tuple #[u, .bool b] else u) w∧Rep Φ μ c u∧c.ownB=false:=by
 unfold plookup at hp
 split at hp
 case h_2=>cases hp
 rename_i kt et kv' hkind
 obtain ⟨rfl,-⟩:=hk.val_inv
 have hu:=kind_map ht hkind
 split at hp
 case h_2=>cases hp
 rename_i ki ei es hki hei hes
 obtain ⟨ents,hE,hv⟩:=pents_sound h hx hes
 have hrun:∀(o:Option (Nat×Value)) u,(∀e,(Instr.checkKey e 10000 kt kv).run P w = .ok () w)→(Instr.findKey kt kv ents.toList).run P w = .ok o w→(match o with|some (_,x)=>u=x∧b=true|none=>(zeroValue et).run P w = .ok u w∧b=false) →
   (Instr.lookup t v kv ok).run P w = .ok (if ok then .tuple #[u, .bool b] else u) w:=by
  intro o u k1 k2 k3
  rcases hv with ⟨rfl,rfl⟩|⟨g,clock,rfl,hg⟩
  ·simp only [Array.toList] at k2
   cases o with
   |none=>simp only at k3;obtain ⟨k3,rfl⟩:=k3;simp only [Instr.lookup,Sem.run_bind,run_underlying hu,Result.andThen_ok,Sem.run_pure,k1,k2,k3]
   |some o=>simp only at k3;obtain ⟨rfl,rfl⟩:=k3;simp only [Instr.lookup,Sem.run_bind,run_underlying hu,Result.andThen_ok,Sem.run_pure,k1,k2]
  ·cases o with
   |none=>simp only at k3;obtain ⟨k3,rfl⟩:=k3;simp only [Instr.lookup,Sem.run_bind,run_underlying hu,Result.andThen_ok,Sem.run_pure,(Go.run_getObj_map (P:=P) (w:=w) _ _ _ hg),k1,k2,k3]
   |some o=>simp only at k3;obtain ⟨rfl,rfl⟩:=k3;simp only [Instr.lookup,Sem.run_bind,run_underlying hu,Result.andThen_ok,Sem.run_pure,(Go.run_getObj_map (P:=P) (w:=w) _ _ _ hg),k1,k2]
 have hkt:=tab_at hT hki
 have het:=tab_at hT hei
 unfold mget at hp
 split at hp
 case isFalse=>cases hp
 rename_i hko
 split at hp
 case h_2=>cases hp
 rename_i sk hsk
 split at hp
 ·rename_i j hm
  obtain ⟨h1,s,kk,c',e,q1,q2,q3,q4,q5,q6,q7,q8⟩:=find_run (w:=w) hkt hsk hko hE hm
  rw [q1] at hp
  cases hp
  exact ⟨e.val,hrun _ _ h1 q8 ⟨rfl,rfl⟩,q5.bare,PV.bare_own _⟩
 ·rename_i hm
  obtain ⟨h1,h2⟩:=find_run (w:=w) hkt hsk hko hE hm
  obtain ⟨z,hz,hzz⟩:=Option.map_eq_some_iff.1 hp
  cases hzz
  obtain ⟨u,r1,r2⟩:=zeroPV_sound (w:=w) (Φ:=Φ) (μ:=μ) het hz
  exact ⟨u,hrun _ _ h1 h2 ⟨r1,rfl⟩,r2.bare,PV.bare_own _⟩
 ·cases hp
theorem pmaxL_sound (mx:Bool):∀(ps:List PV) (vs:List Value) (k:IntKind) (n:Int) (p:PV),RepL Φ μ ps vs→pmaxL mx k n ps=some p→∃r,(vs.foldlM (if mx then Builtin.max2 else Builtin.min2) (.int k n)).run P w = .ok r w∧Rep Φ μ p r∧p.ownB=false
 | [],vs,k,n,p,hr,h=>by
  obtain rfl:vs = []:=List.eq_nil_of_length_eq_zero (by simpa using hr.1)
  simp [pmaxL] at h;subst h
  exact ⟨.int k n,by simp, .val _ rfl,rfl⟩
 |q :: ps,[],k,n,p,hr,h=>by have:=hr.1;simp at this
 |q :: ps,v :: vs,k,n,p,hr,h=>by
  have h0:=hr.2 0 q v rfl rfl
  have ht:RepL Φ μ ps vs:=⟨by simpa using hr.1,fun j c u h1 h2=>hr.2 (j+1) c u (by simpa using h1) (by simpa using h2)⟩
  cases q with
  |val u=>
   obtain ⟨rfl,-⟩:=h0.val_inv
   cases v with
   |int k' y=>
    simp only [pmaxL] at h
    obtain ⟨r,r1,r2⟩:=pmaxL_sound mx ps vs k _ p ht h
    refine ⟨r,?_,r2⟩
    rw [List.foldlM_cons]
    cases mx
    ·simp only [Bool.false_eq_true,if_false,Sem.run_bind] at r1 ⊢
     rw [show (Builtin.min2 (.int k n) (.int k' y)).run P w = .ok (.int k (if y < n then y else n)) w by simp [Builtin.min2]]
     exact r1
    ·simp only [if_true,Sem.run_bind] at r1 ⊢
     rw [show (Builtin.max2 (.int k n) (.int k' y)).run P w = .ok (.int k (if y > n then y else n)) w by simp [Builtin.max2]]
     exact r1
   |_=>simp [pmaxL] at h
  |_=>simp [pmaxL] at h
theorem pmax_sound (mx:Bool) {ps:List PV} {vs:List Value} {p:PV} (hr:RepL Φ μ ps vs) (h:pmax mx ps=some p) (at_:Array TypeId) (ty:TypeId):∃r,(if mx then Builtin.max_ at_ ty vs.toArray else Builtin.min_ at_ ty vs.toArray).run P w = .ok r w∧Rep Φ μ p r∧p.ownB=false:=by
 unfold pmax at h
 split at h
 ·rename_i k n r
  cases vs with
  |nil=>have:=hr.1;simp at this
  |cons v vs=>
   obtain ⟨rfl,-⟩:=(hr.2 0 _ v rfl rfl).val_inv
   have ht:RepL Φ μ r vs:=⟨by simpa using hr.1,fun j c u h1 h2=>hr.2 (j+1) c u (by simpa using h1) (by simpa using h2)⟩
   obtain ⟨x,r1,r2⟩:=pmaxL_sound (P:=P) (w:=w) mx r vs k n p ht h
   refine ⟨x,?_,r2⟩
   cases mx
   ·simpa [Builtin.min_] using r1
   ·simpa [Builtin.max_] using r1
 ·cases h
theorem pcmpN_sound {t:TypeId} {ti:TyI} (ht:tyI P t=some ti) {x y:PV} {v n:Value} (hx:Rep Φ μ x v) (hy:Rep Φ μ y n) {b:Bool} (h:pcmpN ti.kind x y=some b) :
  (binOp .eql t v n).run P w = .ok (.bool b) w∧(binOp .neq t v n).run P w = .ok (.bool !b) w∧∀op a b,(eqGuard op t a b v n).run P w = .ok () w:=by
 unfold pcmpN at h
 split at h
 ·rename_i hf
  obtain ⟨h1,h2,h3⟩:=pnil_sound (w:=w) ht hx hy h hf 9999
  have h1' : (Op.equal t v n).run P w = .ok b w:=h1
  obtain ⟨k1,k2,k3,k4⟩:=binOp_no (n:=n) h3 t
  exact ⟨by rw [k1];simp [h1'],by rw [k3];simp [h1'],fun op a b=>(eqGuard_no h3 op t a b).1⟩
 ·split at h
  ·rename_i hf
   obtain ⟨h1,h2,h3⟩:=pnil_sound (w:=w) ht hy hx h hf 9999
   have h2' : (Op.equal t v n).run P w = .ok b w:=h2
   obtain ⟨k1,k2,k3,k4⟩:=binOp_no (n:=v) h3 t
   exact ⟨by rw [k2];simp [h2'],by rw [k4];simp [h2'],fun op a b=>(eqGuard_no h3 op t a b).2⟩
  ·cases h
theorem pentry_sound (h:RelG Φ0 W M Φ μ ω σ a w) {x k c:PV} {v:Value} (hx:Rep Φ μ x v) (hp:pentryAt σ.m x=some (k,c)):∃ku cu,(Instr.entry v).run P w = .ok (.tuple #[ku,cu]) w∧Rep Φ μ k ku∧Rep Φ μ c cu:=by
 unfold pentryAt at hp
 split at hp
 case h_2=>cases hp
 rename_i id
 split at hp
 case h_2=>cases hp
 rename_i mid since seen last hit
 split at hp
 case h_2=>cases hp
 rename_i es clock hmp
 split at hp
 case isFalse=>cases hp
 rename_i hcl
 subst hcl
 split at hp
 case h_2=>cases hp
 rename_i s hs
 obtain ⟨e,he,hkc⟩:=Option.map_eq_some_iff.1 hp
 cases hkc
 obtain ⟨g,hg,rfl⟩:=hx.ptr_inv
 obtain ⟨g',k1,k2,k3,k4,gm,k5,k6⟩:=h.map id _ hit
 rw [hg] at k1;cases k1
 obtain ⟨gm',m1,m2,m3,m4,-,ents,m5,m6,m7⟩:=h.map mid _ hmp
 rw [k5] at m1;cases m1
 have hit' : (getObj g).run P w = .ok (.mapIter (some gm) since seen.toArray clock) w:=by simp [getObj,Sem.run,k6]
 have hb:seen.toArray.back? = some s:=by simpa using hs
 have hfind:∃e',ents.find? (fun x=>x.born == s)=some e'∧Rep Φ μ e.2.1 e'.key∧Rep Φ μ e.2.2 e'.val:=by
  have:∀(es:List (Nat×PV×PV)) (ents:List MapEntry),ents.length=es.length→(∀(j:Nat) s k c,es[j]? = some (s,k,c)→∃e,ents[j]? = some e∧e.born=s∧Rep Φ μ k e.key∧Rep Φ μ c e.val)→es.find? (fun e=>e.1 == s)=some e→∃e',ents.find? (fun x=>x.born == s)=some e'∧Rep Φ μ e.2.1 e'.key∧Rep Φ μ e.2.2 e'.val:=by
   intro es
   induction es with
   |nil=>intro ents _ _ hh;simp at hh
   |cons x es ih=>
    intro ents hl hr hh
    cases ents with
    |nil=>simp at hl
    |cons y ents=>
     obtain ⟨e0,q1,q2,q3,q4⟩:=hr 0 x.1 x.2.1 x.2.2 rfl
     simp at q1
     subst q1
     rw [List.find?_cons] at hh ⊢
     rw [q2]
     split at hh
     ·rename_i hb
      cases hh
      exact ⟨_,rfl,q3,q4⟩
     ·rename_i hb
      exact ih ents (by simpa using hl) (fun j s k c hj=>by simpa using hr (j+1) s k c (by simpa using hj)) hh
  obtain ⟨e',r1,r2⟩:=this es ents.toList (by simpa using m6) (fun j s k c hj=>by obtain ⟨e,e1,e2,e3,e4,-⟩:=m7 j s k c hj;exact ⟨e,by simpa using e1,e2,e3,e4⟩) he
  exact ⟨e',by simpa using r1,r2⟩
 obtain ⟨e',r1,r2,r3⟩:=hfind
 refine ⟨e'.key,e'.val,?_,r2.bare,r3.bare⟩
 simp only [Instr.entry,Sem.run_bind,hit',Result.andThen_ok,hb,(Go.run_getObj_map (P:=P) (w:=w) _ _ _ m5),bne_self_eq_false,Bool.false_eq_true,if_false,r1,Sem.run_pure]
theorem pvalX_sound (hT:T=tabOf P) (h:RelG Φ0 W M Φ μ ω σ a w) (o:Oper) {p:PV} (hp:pvalX T σ o.op=some p) :
  ∃v,(execOp a.eval o).run P w = .ok (.value v) w∧Rep Φ μ p v∧p.ownB=false:=by
 obtain ⟨dst,op,ty,pos,after,guard⟩:=o
 simp only at hp
 unfold pvalX at hp
 split at hp
 ·rename_i x
  have hx:=h.ev x
  split at hp
  ·rename_i id off e
   cases hp
   rw [e] at hx
   obtain ⟨g,hg,hv⟩:=hx.ptr_inv
   exact ⟨a.eval x,by simp only [execOp,hv,Sem.run_pure],hx,rfl⟩
  ·rename_i cs off e
   cases hp
   rw [e] at hx
   obtain ⟨b,o',us,hv,-⟩:=hx.ep_inv
   exact ⟨a.eval x,by simp only [execOp,hv,Sem.run_pure],hx,rfl⟩
  ·rename_i f cs e
   cases hp
   rw [e] at hx
   obtain ⟨us,hv,-⟩:=hx.fn_inv
   obtain ⟨t1,p1,q1,e1⟩:=fnV_func f us.toArray
   rw [e1] at hv
   exact ⟨a.eval x,by simp only [execOp,hv,Sem.run_pure],hx,rfl⟩
  ·cases hp
 ·rename_i op t x y yt
  split at hp
  case h_2=>cases hp
  rename_i ti ht
  split at hp
  ·obtain ⟨b,hb,rfl⟩:=Option.map_eq_some_iff.1 hp
   obtain ⟨r1,r1',r2⟩:=pcmpN_sound (P:=P) (w:=w) (tab_at hT ht) (h.ev x) (h.ev y) hb
   refine ⟨.bool b,?_, .val _ rfl,rfl⟩
   simp only [execOp,Sem.run_bind,r2,Result.andThen_ok,r1,r1',Sem.run_pure]
  ·obtain ⟨b,hb,rfl⟩:=Option.map_eq_some_iff.1 hp
   obtain ⟨r1,r1',r2⟩:=pcmpN_sound (P:=P) (w:=w) (tab_at hT ht) (h.ev x) (h.ev y) hb
   refine ⟨.bool !b,?_, .val _ rfl,rfl⟩
   simp only [execOp,Sem.run_bind,r2,Result.andThen_ok,r1,r1',Sem.run_pure]
  ·cases hp
 ·rename_i t x k ok
  split at hp
  case h_2=>cases hp
  rename_i ti ht
  split at hp
  case h_2=>cases hp
  rename_i c b hl
  obtain ⟨u,r1,r2,r3⟩:=plookup_sound hT h (tab_at hT ht) (h.ev x) (h.ev k) hl ok
  cases ok with
  |true=>
   simp only [if_true,Option.some.injEq] at hp r1
   subst hp
   refine ⟨.tuple #[u, .bool b],by simp [execOp,r1],?_,rfl⟩
   have:=(RepL.cons r2 (RepL.cons (Rep.val (Φ:=Φ) (μ:=μ) (.bool b) rfl) RepL.nil)).tup
   simpa using this
  |false=>
   simp only [Bool.false_eq_true,if_false,Option.some.injEq] at hp r1
   subst hp
   exact ⟨u,by simp [execOp,r1],r2,r3⟩
 ·rename_i it
  split at hp
  case h_2=>cases hp
  rename_i k c he
  cases hp
  obtain ⟨ku,cu,r1,r2,r3⟩:=pentry_sound (P:=P) h (h.ev it) he
  refine ⟨.tuple #[ku,cu],by simp [execOp,r1],?_,rfl⟩
  have:=(RepL.cons r2 (RepL.cons r3 RepL.nil)).tup
  simpa using this
 ·rename_i t x
  have hx:=h.ev x
  split at hp
  case h_2=>cases hp
  rename_i ti ht
  split at hp
  case h_2=>cases hp
  rename_i n e k ag hk
  obtain ⟨hu,-⟩:=arr_get (tab_at hT ht) hk
  split at hp
  ·rename_i id off m k' ex
   split at hp
   ·rename_i hc
    cases hp
    rw [ex] at hx
    obtain ⟨ad,cap,hv,-,-,hg⟩:=hx.msl_inv
    obtain ⟨g,hg1,rfl⟩:=hg hc.2
    exact ⟨.pointer (some ⟨g,off,none⟩),by simp [execOp,Instr.arrayAt,run_underlying hu,hv,Nat.not_lt.2 hc.1], .ptr _ _ g hg1,rfl⟩
   ·cases hp
  ·rename_i m k' cs own ex
   split at hp
   ·rename_i hc
    cases hp
    rw [ex] at hx
    obtain ⟨ad,b,o',cap,us,hv,-,-,-,ha,hp1,hp2⟩:=hx.sl_inv
    rw [ha hc.2] at hv
    exact ⟨.pointer (some ⟨b,o' + 0,none⟩),by simp [execOp,Instr.arrayAt,run_underlying hu,hv,Nat.not_lt.2 hc.1], .ep cs 0 b o' us hp1 hp2,rfl⟩
   ·cases hp
  ·cases hp
 ·rename_i c
  obtain ⟨callee,args,argTypes⟩:=c
  simp only at hp
  have hargs:RepL Φ μ (args.toList.map (pev σ)) (args.toList.map a.eval):=by
   refine ⟨by simp,fun j c u h1 h2=>?_⟩
   rw [List.getElem?_map] at h1 h2
   obtain ⟨x,hx,rfl⟩:=Option.map_eq_some_iff.1 h1
   rw [hx] at h2
   simp at h2
   subst h2
   exact h.ev x
  have hae:(args.toList.map a.eval).toArray=args.map a.eval:=by rw [←Array.toList_map,Array.toArray_toList]
  split at hp
  ·split at hp
   case h_2=>cases hp
   rename_i x t ea et
   obtain rfl:args = #[x]:=by rw [←Array.toArray_toList (xs:=args),ea]
   obtain rfl:argTypes = #[t]:=by rw [←Array.toArray_toList (xs:=argTypes),et]
   split at hp
   case h_2=>cases hp
   rename_i ti ht
   split at hp
   case h_2=>cases hp
   rename_i kt et hk
   obtain ⟨es,hes,rfl⟩:=Option.map_eq_some_iff.1 hp
   obtain ⟨ents,hE,hv⟩:=pents_sound h (h.ev x) hes
   have hu:=kind_map (tab_at hT ht) hk
   refine ⟨.int .i64 es.length,?_, .val _ rfl,rfl⟩
   rcases hv with ⟨hv,rfl⟩|⟨g,clock,hv,hg⟩
   ·have h0:es.length=0:=by have:=hE.1;simpa using this.symm
    simp [execOp,resolve,invoke,builtin,Builtin.len_,run_underlying hu,hv,goInt,h0]
   ·have h0:=hE.1
    simp only [execOp,resolve,invoke,builtin,Builtin.len_,Sem.run_bind,Sem.run_pure,Result.andThen_ok,List.map_toArray,List.map_cons,List.map_nil,List.getElem?_toArray,List.getElem?_cons_zero,run_underlying hu,hv,(Go.run_getObj_map (P:=P) (w:=w) _ _ _ hg),goInt,h0]
  ·obtain ⟨r,r1,r2⟩:=pmax_sound (P:=P) (w:=w) true hargs hp argTypes ty
   refine ⟨r,?_,r2⟩
   rw [hae] at r1
   simp only [if_true] at r1
   simp only [execOp,resolve,invoke,builtin,Sem.run_bind,Sem.run_pure,Result.andThen_ok,r1]
  ·obtain ⟨r,r1,r2⟩:=pmax_sound (P:=P) (w:=w) false hargs hp argTypes ty
   refine ⟨r,?_,r2⟩
   rw [hae] at r1
   simp only [Bool.false_eq_true,if_false] at r1
   simp only [execOp,resolve,invoke,builtin,Sem.run_bind,Sem.run_pure,Result.andThen_ok,r1]
  ·cases hp
 ·cases hp
theorem pvalA_sound (hT:T=tabOf P) (h:RelG Φ0 W M Φ μ ω σ a w) (o:Oper) {p:PV} (hp:pvalA T σ o.op=some p) :
  ∃v,(execOp a.eval o).run P w = .ok (.value v) w∧Rep Φ μ p v∧p.ownB=false:=by
 unfold pvalA at hp
 split at hp
 ·rename_i q hq
  cases hp
  exact pval_sound hT h o hq
 ·exact pvalX_sound hT h o hp
end
section
open Go.RowKit
structure Eff where
 v:PV
 bx:List (Nat×List PV)
 dis:Option Nat
 mx:List (Nat×PMap)
def PS.app (σ:PS) (dst:Option Nat) (e:Eff):PS where
 t:=match dst with
  |some d=>upd (match e.dis with|some s=>upd σ.t s (σ.t s).bare|none=>σ.t) d e.v
  |none=>(match e.dis with|some s=>upd σ.t s (σ.t s).bare|none=>σ.t)
 b:=e.bx.foldl (fun b x=>upd b x.1 (some x.2)) σ.b
 m:=e.mx.foldl (fun b x=>upd b x.1 (some x.2)) σ.m
def takeE (σ:PS):Operand→Eff
 | .tmp s=>if (σ.t s).ownB then ⟨σ.t s,[],some s,[]⟩ else ⟨(σ.t s).bare,[],none,[]⟩
 |x=>⟨pev σ x,[],none,[]⟩
def asOwn (e k:Nat):PV→Option (Nat×List PV)
 | .nilsl=>some (0,[])
 | .sl n k' cs (some e')=>if k' = k∧(e' = e∨e' = e+1000000) then some (n,cs) else none
 |_=>none
def fullB (e:TypeId):PV→Bool
 | .sl _ _ _ (some e')=>decide (e'≠e)
 |_=>false
def asSrc (k:Nat):PV→Option (Nat×List PV)
 | .nilsl=>some (0,[])
 | .sl n k' cs _=>if k' = k then some (n,cs) else none
 |_=>none
def ownPV (σ:PS):Operand→PV
 | .tmp s=>σ.t s
 |x=>pev σ x
def disOf:Operand→Option Nat
 | .tmp s=>some s
 |_=>none
open Classical in
noncomputable def pappend (e k by_:Nat) (p q:PV) (s:Option Nat):Option Eff:=
 match asOwn e k p,asSrc k q with
 |some x,some y=>if (x.1+y.1) * by_≤140737488355328∧x.1+y.1≤140737488355328∧y.2.all PV.one∧e < 1000000∧(fullB e p=false∨0 < y.1) then some ⟨.sl (x.1+y.1) k (x.2 ++ y.2) (some e),[],s,[]⟩ else none
 |_,_=>none
open Classical in
noncomputable def pmake (k by_:Nat) (zr:List PV) (x y:Int):Option (Nat×List PV):=
 if 0≤x∧x=y∧(by_:Int) * x≤281474976710656∧x≤9223372036854775807 then some (x.toNat,(List.replicate x.toNat zr).flatten) else none
def ploadO (T:Tab) (hd:Bool) (b:Nat→Option (List PV)) (t:TypeId):PV→Option Eff
 | .ptr j off=>if hd then (match b j with
  |some bs=>match bs[off]? with
   |some (.sl n k cs (some E))=>match T.at t with
    |some ti=>if ti.agg=false then some ⟨.sl n k cs (some E),[(j,bs.set off (.sl n k cs none))],none,[]⟩ else none
    |none=>none
   |_=>none
  |none=>none) else none
 |_=>none
noncomputable def presE (T:Tab) (hd:Bool) (id:Nat) (σ:PS):Op→Option Eff
 | .assign x=>some (takeE σ x)
 | .move x=>if hd then some (takeE σ x) else some ⟨pev σ x,[],none,[]⟩
 | .alloc e=>match T.at e,σ.b id,σ.m id with
  |some ti,none,none=>some ⟨.ptr id 0,[(id,ti.zero)],none,[]⟩
  |_,_,_=>none
 | .box _ x=>match pcells (pev σ x),σ.b id,σ.m id with
  |some cs,none,none=>some ⟨.ptr id 0,[(id,cs)],none,[]⟩
  |_,_,_=>none
 | .store t x y=>match pev σ x with
  | .ptr j off=>if (ownPV σ y).ownB then (match σ.b j,T.at t with
    |some bs,some ti=>if ti.size=1∧off+1≤bs.length then some ⟨.tup [],[(j,bs.set off (ownPV σ y))],disOf y,[]⟩ else none
    |_,_=>none)
   else match σ.b j,T.at t,pcells (pev σ y) with
   |some bs,some ti,some new=>if new.length=ti.size∧off+new.length≤bs.length then some ⟨.tup [],[(j,splF bs off new)],none,[]⟩ else none
   |_,_,_=>none
  |_=>none
 | .load t x=>match ploadO T hd σ.b t (pev σ x) with
  |some E=>some E
  |none=>(pvalA T σ (.load t x)).map fun v=>⟨v,[],none,[]⟩
 | .buildSlice t len parts=>match T.at t with
  |some ti=>match ti.kind with
   | .slice e k _ zr=>if len * k≤16777216∧e < 1000000 then (pfill (fun i=>some (i * k,k)) ((List.replicate len zr).flatten) (parts.toList.map fun x=>(x.1,pev σ x.2))).map fun cs=>⟨.sl len k cs (some e),[],none,[]⟩ else none
   |_=>none
  |none=>none
 | .makeSlice t l c=>match T.at t,pev σ l,pev σ c,σ.b id,σ.m id with
  |some ti, .val (.int _ x), .val (.int _ y),none,none=>match ti.kind with
   | .slice _ k by_ zr=>match pmake k by_ zr x y with
    |some r=>some ⟨.msl id 0 r.1 k,[(id,r.2)],none,[]⟩
    |none=>none
   |_=>none
  |_,_,_,_,_=>none
 | .call c=>match c.callee with
  | .builtin .append=>match c.args.toList,c.argTypes.toList with
   | [s,x],[t,t']=>if t' = t then (match T.at t with
     |some ti=>match ti.kind with
      | .slice e k by_ _=>pappend e k by_ (ownPV σ s) (pev σ x) (disOf s)
      |_=>none
     |none=>none) else none
   |_,_=>none
  |_=>(pvalA T σ (.call c)).map fun v=>⟨v,[],none,[]⟩
 |op=>(pvalA T σ op).map fun v=>⟨v,[],none,[]⟩
def noDst:Op→Bool
 | .store .. | .mapUpdate .. | .insert .. => true
 |_=>false
def needDst:Op→Bool
 | .store .. | .mapUpdate .. | .insert .. => false
 | .call c=>match c.callee with
  | .builtin .delete | .builtin .copy | .value _ | .invoke .. => false
  |_=>true
 |_=>true
theorem pvalA_need {T:Tab} {σ:PS} {op:Op} {p:PV} (h:pvalA T σ op=some p):needDst op=true:=by
 unfold pvalA at h
 cases op with
 |call c=>
  obtain ⟨callee,args,argTypes⟩:=c
  cases callee with
  |builtin b=>cases b<;>first|rfl|simp [pval,pvalX] at h
  |_=>simp [pval,pvalX] at h
 |store=>simp [pval,pvalX] at h
 |mapUpdate=>simp [pval,pvalX] at h
 |insert=>simp [pval,pvalX] at h
 |_=>rfl
end
section
open Go.RowKit
variable {Φ0:Ent} {W:World} {M:Nat} {Φ:Imm} {μ:Nat→Option Nat} {ω:Nat→Option Who} {σ:PS} {a:Act} {w:World} {P:Program} {T:Tab}
def Does (P:Program) (Φ0:Ent) (W:World) (M:Nat) (a:Act) (w:World) (o:Oper) (σ' : PS):Prop:=
 ∃nx v w',(execOp a.eval o).run P w = .ok nx w'∧(nx = .value v∨nx = .skip∧v=undef)∧Rel Φ0 W M σ' (a.put o.dst v) w'
theorem does_val (h:RelG Φ0 W M Φ μ ω σ a w) (o:Oper) {d:Nat} (hd:o.dst=some d) (hM:d < M) {p:PV} {v:Value} (hr:(execOp a.eval o).run P w = .ok (.value v) w) (hp:Rep Φ μ p v) (ho:p.ownB=false) :
  Does P Φ0 W M a w o (σ.app o.dst ⟨p,[],none,[]⟩):=by
 refine ⟨_,v,w,hr, .inl rfl,Φ,μ,ω,?_⟩
 rw [hd]
 exact h.put hM hp ho
theorem does_take (h:RelG Φ0 W M Φ μ ω σ a w) (o:Oper) {d:Nat} (hd:o.dst=some d) (hM:d < M) (x:Operand) (hr:(execOp a.eval o).run P w = .ok (.value (a.eval x)) w):Does P Φ0 W M a w o (σ.app o.dst (takeE σ x)):=by
 cases x with
 |tmp s=>
  simp only [takeE]
  split
  ·rename_i hown
   obtain ⟨n,k,cs,E,hs⟩:∃n k cs E,σ.t s = .sl n k cs (some E):=by
    cases hσ:σ.t s with
    |sl n k cs own=>cases own with
     |none=>rw [hσ] at hown;simp [PV.ownB] at hown
     |some E=>exact ⟨n,k,cs,E,rfl⟩
    |_=>rw [hσ] at hown;simp [PV.ownB] at hown
   obtain ⟨ω',h'⟩:=h.moveOwn hM hs
   refine ⟨_,a.eval (.tmp s),w,hr, .inl rfl,Φ,μ,ω',?_⟩
   rw [hd]
   exact h'
  ·exact does_val h o hd hM hr (h.tmps s).bare (PV.bare_own _)
 |const v=>exact does_val h o hd hM hr (h.ev (.const v)) (pev_own σ _)
 |global g=>exact does_val h o hd hM hr (h.ev (.global g)) (pev_own σ _)
 |func f=>exact does_val h o hd hM hr (h.ev (.func f)) (pev_own σ _)
theorem zero_rows {zr:List PV} {z:Array Value} {k len:Nat} (hk:z.size=k) (hpos:0 < k) (hr:RepL Φ μ zr z.toList) (hone:∀c∈z.toList,c.oneCell' = true) (hno:∀c∈zr,c.ownB=false) :
  CellsR Φ μ ((List.replicate len zr).flatten) ((Array.range (len * k)).map (fun i=>z[i % z.size]!)).toList:=by
 have hzl:zr.length=k:=by rw [←hr.1];simpa using hk
 have hget:∀j,((List.replicate len zr).flatten)[j]? = if j < len * k then zr[j % k]? else none:=by
  induction len with
  |zero=>intro j;simp
  |succ len ih=>
   intro j
   rw [List.replicate_succ,List.flatten_cons]
   by_cases hj:j < k
   ·rw [List.getElem?_append_left (by omega),if_pos (by rw [Nat.succ_mul];omega),Nat.mod_eq_of_lt hj]
   ·rw [List.getElem?_append_right (by omega),hzl,ih]
    have e1:(j - k) % k=j % k:=by rw [Nat.mod_eq_sub_mod (a:=j) (by omega)]
    rw [e1]
    by_cases h1:j - k < len * k
    ·rw [if_pos h1,if_pos (by rw [Nat.succ_mul];omega)]
    ·rw [if_neg h1,if_neg (by rw [Nat.succ_mul];omega)]
 have hz:∀j,j < len * k→((Array.range (len * k)).map (fun i=>z[i % z.size]!)).toList[j]? = z.toList[j % k]?:=by
  intro j hj
  have:j % k < z.size:=by rw [hk];exact Nat.mod_lt _ hpos
  simp [hj,hk,this,getElem!_pos]
  rw [getElem!_pos z _ this,Array.getElem?_eq_getElem this]
 refine ⟨⟨?_,fun j c u h1 h2=>?_⟩,fun u hu=>?_,fun c hc=>?_⟩
 ·simp [hzl]
 ·rw [hget] at h1
  split at h1
  ·rename_i hj
   rw [hz j hj] at h2
   exact hr.2 _ c u h1 h2
  ·cases h1
 ·obtain ⟨j,hj⟩:=List.getElem?_of_mem hu
  have hlt:j < len * k:=by have:=(List.getElem?_eq_some_iff.1 hj).1;simpa using this
  rw [hz j hlt] at hj
  exact hone u (mem_of_get hj)
 ·obtain ⟨l,hl,hcl⟩:=List.mem_flatten.1 hc
  rw [List.eq_of_mem_replicate hl] at hcl
  exact hno c hcl
theorem parts_rep (h:RelG Φ0 W M Φ μ ω σ a w) (parts:Array (Nat×Operand)):∀(j:Nat) i p i' v,(parts.toList.map fun x=>(x.1,pev σ x.2))[j]? = some (i,p)→(parts.toList.map fun x=>(x.1,a.eval x.2))[j]? = some (i',v)→i' = i∧Rep Φ μ p v:=by
 intro j i p i' v h1 h2
 rw [List.getElem?_map] at h1 h2
 obtain ⟨x,hx,e⟩:=Option.map_eq_some_iff.1 h1
 rw [hx] at h2
 simp at h2 e
 obtain ⟨rfl,rfl⟩:=e
 obtain ⟨rfl,rfl⟩:=h2
 exact ⟨rfl,h.ev x.2⟩
theorem does_append_core (h:RelG Φ0 W M Φ μ ω σ a w) (o:Oper) {d:Nat} (hd:o.dst=some d) (hM:d < M) {s x:Operand} {t:TypeId} (hop:o.op = .call { callee:=.builtin .append,args := #[s,x],argTypes := #[t,t] })
  {ti:TyI} (ht:tyI P t=some ti) {e k by_:Nat} {zr:List PV} (hk:ti.kind = .slice e k by_ zr) {n m:Nat} {cs ds:List PV} (hX:asOwn e k (ownPV σ s)=some (n,cs)) (c1:(n+m) * by_≤140737488355328) (c2:n+m≤140737488355328) (ce:e < 1000000) (cf:fullB e (ownPV σ s)=false∨0 < m)
  (hx:∃ad cx news,a.eval x = .slice ad m cx∧(0 < m→∃adr,ad=some adr∧∀j u,news[j]? = some u→w.cell? (adr.add j)=some u)∧RepL Φ μ ds news∧(∀u∈news,u.oneCell' = true)∧ds.length=m * k):Does P Φ0 W M a w o (σ.app o.dst ⟨.sl (n+m) k (cs ++ ds) (some e),[],disOf s,[]⟩):=by
 obtain ⟨hu,i,z,e1,e2,e3,e4,e5,e6,-,-⟩:=slice_get ht hk
 have hrun:∀v' w',(Builtin.append_ #[t,t] o.type #[a.eval s,a.eval x]).run P w = .ok v' w'→(execOp a.eval o).run P w = .ok (.value v') w':=by
  intro v' w' hr
  simp only [execOp,hop,resolve,invoke,builtin,Sem.run_bind,Sem.run_pure,Result.andThen_ok,List.map_toArray,List.map_cons,List.map_nil,hr]
 have hml:n+m≤maxLen:=by unfold maxLen;omega
 obtain ⟨ad,cx,news,hxv,hxa,hxr,hxo,hdl⟩:=hx
 have hnl:news.length=m * k:=by rw [hxr.1,hdl]
 -- a new block
 have fresh:∀(v' : Value) (xs:List Value) (cap:Nat) (rest:Array Value),RepL Φ μ cs xs→xs.length=n * k→n+m≤cap→cap≤maxLen→(xs.toArray ++ news.toArray ++ rest).size=cap * k →
   (Builtin.append_ #[t,t] o.type #[a.eval s,a.eval x]).run P w = .ok (.slice (some ⟨w.heap.size,0,none⟩) (n+m) cap) (w.drew.alloc (.cells (xs.toArray ++ news.toArray ++ rest) e))→Does P Φ0 W M a w o (σ.app o.dst ⟨.sl (n+m) k (cs ++ ds) (some e),[],disOf s,[]⟩):=by
  intro v' xs cap rest hxs hxl hcap hcm hsz hr
  have hL:(cs ++ ds).length=(n+m) * k:=by rw [List.length_append,←hxs.1,hxl,hdl,Nat.add_mul]
  have htake:(xs.toArray ++ news.toArray ++ rest).toList.take ((n+m) * k)=xs ++ news:=by
   simp only [Array.toList_append]
   rw [←hL,List.length_append,←hxs.1,←hxr.1,←List.length_append]
   exact List.take_left
  have hrep:RepL Φ μ (cs ++ ds) (xs ++ news):=by
   refine ⟨by simp [hxs.1,hxr.1],fun j c u h1 h2=>?_⟩
   by_cases hj:j < cs.length
   ·rw [List.getElem?_append_left hj] at h1
    rw [List.getElem?_append_left (by rw [hxs.1];exact hj)] at h2
    exact hxs.2 j c u h1 h2
   ·rw [List.getElem?_append_right (by omega)] at h1
    rw [List.getElem?_append_right (by rw [hxs.1];omega),hxs.1] at h2
    exact hxr.2 _ c u h1 h2
  obtain ⟨Φ',ω',h',-⟩:=h.drew.newOwn (d:=d) hM (N:=n+m) (k:=k) (cap:=cap) (L:=cs ++ ds) (cur:=xs.toArray ++ news.toArray ++ rest) (e:=e) hL (by rw [htake];exact hrep) hcap hcm hsz ce
  refine ⟨_,_,_,hrun _ _ hr, .inl rfl,?_⟩
  rw [hd]
  cases s with
  |tmp s=>
   have h2:=h'.strip s
   refine ⟨Φ',μ,ω',?_⟩
   simp only [PS.app,disOf,List.foldl_nil,List.foldl_cons]
   by_cases hsd:s=d
   ·subst hsd
    have e9:upd (upd σ.t s (σ.t s).bare) s (.sl (n+m) k (cs ++ ds) (some e))=upd σ.t s (.sl (n+m) k (cs ++ ds) (some e)):=by
     funext j;simp only [upd_if];by_cases hj:j=s<;>simp [hj]
    simp only [e9]
    exact h'
   ·have e9:upd (upd σ.t s (σ.t s).bare) d (.sl (n+m) k (cs ++ ds) (some e))=upd (upd σ.t d (.sl (n+m) k (cs ++ ds) (some e))) s (σ.t s).bare:=upd_comm _ _ _ hsd
    simp only [e9]
    have e10:(PS.put σ d (.sl (n+m) k (cs ++ ds) (some e))).t s=σ.t s:=by simp [PS.put,upd_if,hsd]
    rw [e10] at h2
    exact h2
  |const v=>exact ⟨Φ',μ,ω',h'⟩
  |global v=>exact ⟨Φ',μ,ω',h'⟩
  |func v=>exact ⟨Φ',μ,ω',h'⟩
 -- what is appended to
 have hsrc:(a.eval s = .slice none 0 0∧n=0∧cs = []∧(ownPV σ s).ownB=false)∨(∃s' e',s = .tmp s'∧σ.t s' = .sl n k cs (some e')∧(e' = e∨e' = e+1000000)):=by
  unfold asOwn at hX
  split at hX
  ·rename_i hq
   simp at hX
   obtain ⟨rfl,rfl⟩:=hX
   left
   have:Rep Φ μ .nilsl (a.eval s):=by
    cases s with
    |tmp s' => have:=h.tmps s'; simp only [ownPV] at hq;rw [hq] at this;exact this
    |const v=>have:=h.ev (.const v);simp only [ownPV] at hq;rw [←hq];exact this
    |global v=>have:=h.ev (.global v);simp only [ownPV] at hq;rw [←hq];exact this
    |func v=>have:=h.ev (.func v);simp only [ownPV] at hq;rw [←hq];exact this
   exact ⟨this.nilsl_inv,rfl,rfl,by rw [hq];rfl⟩
  ·rename_i n' k' cs' e' hq
   split at hX
   ·rename_i hkk
    obtain ⟨rfl,hee⟩:=hkk
    simp at hX
    obtain ⟨rfl,rfl⟩:=hX
    right
    cases s with
    |tmp s' => exact ⟨s',e',rfl,hq,hee⟩
    |const v=>have:=pvC_own v;simp only [ownPV,pev] at hq;rw [hq] at this;simp [PV.ownB] at this
    |global g=>have:=globPV_own g globTab;simp only [ownPV,pev] at hq;rw [hq] at this;simp [PV.ownB] at this
    |func f=>cases hblt:Nat.blt f 1000000<;>simp [ownPV,pev,hblt] at hq
   ·cases hX
  ·cases hX
 by_cases hm:m=0
 ·-- nothing is appended
  subst hm
  have hds:ds = []:=List.eq_nil_of_length_eq_zero (by simpa using hdl)
  subst hds
  simp only [Nat.add_zero,List.append_nil]
  rcases hsrc with ⟨hs,rfl,rfl,hno⟩|⟨s',e',rfl,hs,hee⟩
  ·refine ⟨_, .slice none 0 0,w,hrun _ _ (by rw [hs,hxv];exact run_append0 w t _ e i hu e1 none ad 0 0 cx (Nat.le_refl _)), .inl rfl,?_⟩
   rw [hd]
   have hput:∀σ1:PS,RelG Φ0 W M Φ μ ω σ1 a w→RelG Φ0 W M Φ μ ω (σ1.put d (.sl 0 k [] (some e))) (a.put (some d) (.slice none 0 0)) w:=by
    intro σ1 h1
    have h2:=h1.put (p:=.nilsl) hM .nilsl rfl
    have h3:=h2.forget (upd (σ1.put d .nilsl).t d (.sl 0 k [] (some e))) (fun u=>by
     by_cases hu:u=d
     ·subst hu;right;right;right;exact ⟨k,e,by simp [upd_if],by simp [PS.put,upd_if]⟩
     ·right;left;simp [upd_if,hu])
    have e' : upd (σ1.put d .nilsl).t d (.sl 0 k [] (some e))=upd σ1.t d (.sl 0 k [] (some e)):=by
     funext j;simp only [PS.put,upd_if];by_cases hj:j=d<;>simp [hj]
    rw [e'] at h3
    exact h3
   cases s with
   |tmp s' => exact ⟨Φ,μ,ω,hput _ (h.strip s')⟩
   |const v=>exact ⟨Φ,μ,ω,hput _ h⟩
   |global v=>exact ⟨Φ,μ,ω,hput _ h⟩
   |func v=>exact ⟨Φ,μ,ω,hput _ h⟩
  ·have hsv:=h.tmps s'
   rw [hs] at hsv
   obtain ⟨ad',b,off,cap,us,hv,q1,-⟩:=hsv.sl_inv
   obtain ⟨ω',h'⟩:=h.moveOwn hM hs
   refine ⟨_,a.eval (.tmp s'),w,hrun _ _ ?_, .inl rfl,Φ,μ,ω',?_⟩
   ·rw [hxv,show a.eval (.tmp s') = .slice ad' n cap from hv];exact run_append0 w t _ e i hu e1 ad' ad n cap cx q1
   ·have hee' : e' = e:=by
     rcases cf with cf|cf
     ·simp only [ownPV,hs,fullB,decide_eq_false_iff_not,ne_eq,Decidable.not_not] at cf;exact cf
     ·omega
    subst hee'
    rw [hd]
    simp only [PS.app,disOf,List.foldl_nil,List.foldl_cons]
    rw [hs] at h' ⊢
    exact h'
 ·obtain ⟨adr,rfl,hcells⟩:=hxa (by omega)
  rcases hsrc with ⟨hs,rfl,rfl,hno⟩|⟨s',e',rfl,hs,hee⟩
  ·have hr:=run_append_nil (P:=P) w t o.type e i z hu e1 e2 adr m cx news (by rw [hnl,e3]) hcells (by omega) (by omega) (by rw [e4];rw [Nat.zero_add] at c1;omega)
   refine fresh undef [] (grownCap w m 0 e) (Builtin.zeroCells z.cells (grownCap w m 0 e - m)) RepL.nil (by simp) ?_ ?_ ?_ ?_
   ·rw [Nat.zero_add];exact grownCap_ge w m 0 e
   ·exact grownCap_le_maxLen w m 0 e (by omega)
   rotate_left
   ·rw [hs,hxv,Nat.zero_add]
    simpa using hr
   ·have hge:=grownCap_ge w m 0 e
    simp only [Array.size_append,List.size_toArray,size_zeroCells,hnl,e5,List.length_nil,Nat.zero_add,←Nat.add_mul]
    congr 1
    omega
  ·have ho:=h.own s' n k cs e' hs
   have hsr:=h.tmps s'
   rw [hs] at hsr
   have hcsl:cs.length=n * k:=by obtain ⟨_,_,_,_,_,_,_,_,h3,_⟩:=hsr.sl_inv;exact h3
   have nilc:a.eval (.tmp s') = .slice none 0 0→n=0→Does P Φ0 W M a w o (σ.app o.dst ⟨.sl (n+m) k (cs ++ ds) (some e),[],some s',[]⟩):=by
    intro hs0 hn0
    subst hn0
    have hcs:cs = []:=List.eq_nil_of_length_eq_zero (by simpa using hcsl)
    subst hcs
    have hr:=run_append_nil (P:=P) w t o.type e i z hu e1 e2 adr m cx news (by rw [hnl,e3]) hcells (by omega) (by omega) (by rw [e4];rw [Nat.zero_add] at c1;omega)
    refine fresh undef [] (grownCap w m 0 e) (Builtin.zeroCells z.cells (grownCap w m 0 e - m)) RepL.nil (by simp) ?_ ?_ ?_ ?_
    ·rw [Nat.zero_add];exact grownCap_ge w m 0 e
    ·exact grownCap_le_maxLen w m 0 e (by omega)
    rotate_left
    ·rw [hs0,hxv,Nat.zero_add]
     simpa using hr
    ·have hge:=grownCap_ge w m 0 e
     simp only [Array.size_append,List.size_toArray,size_zeroCells,hnl,e5,List.length_nil,Nat.zero_add,←Nat.add_mul]
     congr 1
     omega
   have grow:∀(ad2:Addr) cap,a.eval (.tmp s') = .slice (some ad2) n cap→cap≤maxLen→¬(n+m≤cap)→Does P Φ0 W M a w o (σ.app o.dst ⟨.sl (n+m) k (cs ++ ds) (some e),[],some s',[]⟩):=by
    intro ad2 cap hsv hcapm hroom
    have hsr:=h.tmps s'
    rw [hs,show a.tmps.getD s' undef = .slice (some ad2) n cap from hsv] at hsr
    obtain ⟨xs,hxs,hcx⟩:∃xs,RepL Φ μ cs xs∧∀j u,xs[j]? = some u→w.cell? (ad2.add j)=some u:=by
     cases hsr with
     |sl0=>exact ⟨[],RepL.nil,fun j u hj=>by simp at hj⟩
     |sl _ _ _ _ _ _ _ us _ _ _ hp hrr=>
      refine ⟨_,repL_of_us cs us hrr,fun j u hj=>?_⟩
      have hjl:j < cs.length:=by have:=(List.getElem?_eq_some_iff.1 hj).1;simpa using this
      simp [hjl] at hj
      subst hj
      rw [Addr.add_lit]
      exact h.imm _ _ _ (hp j hjl)
    have hxl:xs.length=n * k:=by rw [hxs.1,hcsl]
    have hr:=run_append_grow (P:=P) w t o.type e i z hu e1 e2 ad2 n cap xs (by rw [hxl,e3]) hcx adr m cx news (by rw [hnl,e3]) hcells (by omega) (by omega) (growslice_fits (by omega) (by rw [e4];exact c1))
    refine fresh undef xs (grownCap w (n+m) cap e) (Builtin.zeroCells z.cells (grownCap w (n+m) cap e - (n+m))) hxs hxl (grownCap_ge w _ _ e) (grownCap_le_maxLen w _ _ e hml) ?_ ?_
    rotate_left
    ·rw [hsv,hxv]
     exact hr
    ·have hge:=grownCap_ge w (n+m) cap e
     simp only [Array.size_append,List.size_toArray,size_zeroCells,hxl,hnl,e5,←Nat.add_mul]
     congr 1
     omega
   rcases ho with ⟨hnil,hn0⟩|⟨g,cap,cur,hv,hB,hg,q1,q2,q3,q4,q5⟩|⟨-,ad2,hfl⟩
   ·exact nilc hnil hn0
   ·have hsv:a.eval (.tmp s') = .slice (some ⟨g,0,none⟩) n cap:=hv
    by_cases hroom:n+m≤cap
    ·have hfit:n * i.size+news.length≤cur.size:=by rw [hnl,q3,e3,←Nat.add_mul];exact Nat.mul_le_mul_right _ hroom
     have hee' : e' = e:=by
      rcases hee with h0|h0
      ·exact h0
      ·have h6:=q5.1
       rw [h0] at h6
       exact absurd h6 (Nat.not_lt.2 (Nat.le_add_left _ _))
     subst hee'
     have hr:=run_append_room (P:=P) w t o.type e' i hu e1 g n cap cur hg adr m cx news (by rw [hnl,e3]) hcells hxo hroom hfit
     obtain ⟨Φ',ω',h'⟩:=h.appendIn hM hs hv hg hroom q3 q4 q5.1 q5.2 hB q2 hdl hxr
     refine ⟨_,_,_,hrun _ _ (by rw [hsv,hxv];exact hr), .inl rfl,Φ',μ,ω',?_⟩
     rw [hd,e3]
     exact h'
    ·exact grow _ cap hsv q2 hroom
   ·cases ad2 with
    |none=>
     have hn0:n=0:=by
      rw [hfl] at hsr
      cases hsr
      rfl
     subst hn0
     exact nilc hfl rfl
    |some ad2=>
     have hnm:n≤maxLen:=by
      rw [hfl] at hsr
      obtain ⟨_,_,_,_,_,he,_,hh,_⟩:=hsr.sl_inv
      cases he;exact hh
     exact grow ad2 n hfl hnm (by omega)
theorem does_append (h:RelG Φ0 W M Φ μ ω σ a w) (o:Oper) {d:Nat} (hd:o.dst=some d) (hM:d < M) {s x:Operand} {t:TypeId} (hop:o.op = .call { callee:=.builtin .append,args := #[s,x],argTypes := #[t,t] })
  {ti:TyI} (ht:tyI P t=some ti) {e k by_:Nat} {zr:List PV} (hk:ti.kind = .slice e k by_ zr) {E:Eff} (hp:pappend e k by_ (ownPV σ s) (pev σ x) (disOf s)=some E):Does P Φ0 W M a w o (σ.app o.dst E):=by
 unfold pappend at hp
 split at hp
 case h_2=>cases hp
 rename_i X Y hX hY
 split at hp
 case isFalse=>cases hp
 rename_i hc
 obtain ⟨c1,c2,c3,ce,cf⟩:=hc
 cases hp
 obtain ⟨n,cs⟩:=X
 obtain ⟨m,ds⟩:=Y
 simp only at c1 c2 c3 cf
 -- what is appended
 have hx:∃ad cx news,a.eval x = .slice ad m cx∧(0 < m→∃adr,ad=some adr∧∀j u,news[j]? = some u→w.cell? (adr.add j)=some u)∧RepL Φ μ ds news∧(∀u∈news,u.oneCell' = true)∧ds.length=m * k:=by
  have hxr:=h.ev x
  unfold asSrc at hY
  split at hY
  ·rename_i hq
   simp at hY
   obtain ⟨rfl,rfl⟩:=hY
   rw [hq] at hxr
   exact ⟨none,0,[],hxr.nilsl_inv,fun h=>by omega,RepL.nil,by simp,by simp⟩
  ·rename_i n' k' cs' own hq
   split at hY
   ·rename_i hkk
    subst hkk
    simp at hY
    obtain ⟨rfl,rfl⟩:=hY
    rw [hq] at hxr
    obtain ⟨ad,b,off,cap,us,hv,q1,q2,q3,q4,q5,q6⟩:=hxr.sl_inv
    have hrl:=repL_of_us cs' us q6
    refine ⟨ad,cap,_,hv,fun hpos=>⟨_,q4 hpos,?_⟩,hrl,repL_one hrl c3,q3⟩
    intro j u hj
    rw [Addr.add_lit]
    have hjl:j < cs'.length:=by have:=(List.getElem?_eq_some_iff.1 hj).1;simpa using this
    simp [hjl] at hj
    subst hj
    exact h.imm _ _ _ (q5 j hjl)
   ·cases hY
  ·cases hY
 exact does_append_core h o hd hM hop ht hk hX c1 c2 ce cf hx
theorem presE_sound (hT:T=tabOf P) (h:RelG Φ0 W M Φ μ ω σ a w) (o:Oper) {hd:Bool} {id:Nat} (hidl:id < 1000000) {E:Eff} (hp:presE T hd id σ o.op=some E) (hdst:∀d,o.dst=some d→d < M) (hkind:(noDst o.op=true→o.dst=none)∧(needDst o.op=true→o.dst.isSome=true)) :
  Does P Φ0 W M a w o (σ.app o.dst E):=by
 obtain ⟨dst,op,ty,pos,after,guard⟩:=o
 simp only at hp hdst hkind
 have simple:∀p,pvalA T σ op=some p→dst.isSome=true→Does P Φ0 W M a w ⟨dst,op,ty,pos,after,guard⟩ (σ.app dst ⟨p,[],none,[]⟩):=by
  intro p hpv hds
  obtain ⟨d,rfl⟩:=Option.isSome_iff_exists.1 hds
  obtain ⟨v,r1,r2,r3⟩:=pvalA_sound hT h ⟨some d,op,ty,pos,after,guard⟩ hpv
  exact does_val h _ rfl (hdst d rfl) r1 r2 r3
 have other:∀E,(pvalA T σ op).map (fun v=>(⟨v,[],none,[]⟩:Eff))=some E→Does P Φ0 W M a w ⟨dst,op,ty,pos,after,guard⟩ (σ.app dst E):=by
  intro E hE
  obtain ⟨p,hpv,rfl⟩:=Option.map_eq_some_iff.1 hE
  exact simple p hpv (hkind.2 (pvalA_need hpv))
 unfold presE at hp
 split at hp
 ·rename_i x
  cases hp
  obtain ⟨d,rfl⟩:=Option.isSome_iff_exists.1 (hkind.2 rfl)
  exact does_take h _ rfl (hdst d rfl) x (by simp [execOp])
 ·rename_i x
  obtain ⟨d,rfl⟩:=Option.isSome_iff_exists.1 (hkind.2 rfl)
  split at hp
  ·cases hp
   exact does_take h _ rfl (hdst d rfl) x (by simp [execOp])
  ·cases hp
   exact does_val h _ rfl (hdst d rfl) (by simp [execOp]) (h.ev x) (pev_own σ x)
 ·rename_i e
  obtain ⟨d,rfl⟩:=Option.isSome_iff_exists.1 (hkind.2 rfl)
  split at hp
  ·rename_i ti ht hb hmb
   cases hp
   obtain ⟨i,dd,z,g1,g2,g3,g4,g5,g6⟩:=tyI_parts (tab_at hT ht)
   have hz:ti.zero=z.cells.toList.map pv0:=by rw [g6]
   have h1:=h.newBox hidl hb hmb (bs:=ti.zero) (us:=z.cells.toList) (by rw [hz];exact repL_pv0 _) g5 (by rw [hz];intro c hc;obtain ⟨v,-,rfl⟩:=List.mem_map.1 hc;exact pv0_own v) e
   have h2:=h1.put (d:=d) (hdst d rfl) (p:=.ptr id 0) (.ptr id 0 w.heap.size (by simp [upd_if])) rfl
   refine ⟨_, .pointer (some ⟨w.heap.size,0,none⟩),w.alloc (.cells z.cells e),?_, .inl rfl,Φ,_,_,by rw [Array.toArray_toList] at h2;exact h2⟩
   simp [execOp,Instr.alloc,zeroValue,typeInfo,g1,g3,newVar,newRow]
  ·cases hp
 ·rename_i e x
  obtain ⟨d,rfl⟩:=Option.isSome_iff_exists.1 (hkind.2 rfl)
  split at hp
  ·rename_i cs hcs hb hmb
   cases hp
   have hc:=pcells_sound (h.ev x) hcs
   have h1:=h.newBox hidl hb hmb hc.1 hc.2.1 hc.2.2 e
   have h2:=h1.put (d:=d) (hdst d rfl) (p:=.ptr id 0) (.ptr id 0 w.heap.size (by simp [upd_if])) rfl
   refine ⟨_, .pointer (some ⟨w.heap.size,0,none⟩),w.alloc (.cells (a.eval x).cells e),?_, .inl rfl,Φ,_,_,by rw [Array.toArray_toList] at h2;exact h2⟩
   simp [execOp,Instr.box,newVar,newRow]
  ·cases hp
 ·rename_i t x y
  have hkd:dst=none:=hkind.1 rfl
  subst hkd
  split at hp
  ·rename_i j off hx
   have hxr:=h.ev x
   rw [hx] at hxr
   obtain ⟨g,hg,hv⟩:=hxr.ptr_inv
   split at hp
   ·rename_i hown
    split at hp
    ·rename_i bs ti hb ht
     split at hp
     ·rename_i hc
      cases hp
      obtain ⟨s,n,k,cs,E,rfl,hs⟩:∃s n k cs E,y = .tmp s∧σ.t s = .sl n k cs (some E):=by
       cases y with
       |tmp s=>
        simp only [ownPV] at hown
        cases hσ:σ.t s with
        |sl n k cs own=>cases own with
         |none=>rw [hσ] at hown;simp [PV.ownB] at hown
         |some E=>exact ⟨s,n,k,cs,E,rfl,hσ⟩
        |_=>rw [hσ] at hown;simp [PV.ownB] at hown
       |const v=>have:=pvC_own v;simp only [ownPV,pev] at hown;rw [this] at hown;cases hown
       |global g=>have:=globPV_own g globTab;simp only [ownPV,pev] at hown;rw [this] at hown;cases hown
       |func f=>cases hblt:Nat.blt f 1000000<;>simp [ownPV,pev,PV.ownB,hblt] at hown
      have hsr:=(h.tmps s)
      rw [hs] at hsr
      obtain ⟨o1,o2⟩:=hsr.one rfl
      have hcr:CellsR Φ μ [.sl n k cs none] [a.tmps.getD s undef]:=⟨RepL.cons hsr.bare RepL.nil,by simpa using o1,by simp [PV.ownB]⟩
      obtain ⟨w',r1,r2⟩:=h.store (P:=P) hb hcr (off:=off) (by simpa using hc.2) hg
      have hsp:(splice bs off [.sl n k cs none])[off]? = some (.sl n k cs none):=by
       simp only [splice]
       rw [List.append_assoc,List.getElem?_append_right (by rw [List.length_take];omega),List.length_take,show min off bs.length=off by omega]
       simp
      have hcell:w'.cell? ⟨g,off,none⟩=some (a.tmps.getD s undef):=by
       obtain ⟨g2,cur2,T2,q1,q2,q3,q4,q5,q6,q7⟩:=h.box j bs hb
       rw [hg] at q1;cases q1
       have hr:=run_storeCells_at P g off T2 [a.tmps.getD s undef] 0 cur2 w q2 (by simp;omega) (by simpa using o1)
       rw [Nat.add_zero] at hr
       rw [hr] at r1
       cases r1
       rw [cell_setRow_same w g off cur2 _ T2 _ q2,List.getElem?_toArray]
       rw [List.append_assoc,List.getElem?_append_right (by rw [List.length_take];omega),List.length_take,show min off cur2.toList.length=off by simp;omega]
       simp
      obtain ⟨ω',r3⟩:=r2.give (id:=j) (off:=off) (n:=n) (k:=k) (g:=g) (cs:=cs) (E:=E) (bs:=splice bs off [.sl n k cs none]) hs (by simp [upd_if]) hsp hg hcell
      obtain ⟨i,dd,z,g1,g2,g3,g4,g5,g6⟩:=tyI_parts (tab_at hT ht)
      refine ⟨_,undef,w',?_, .inr ⟨rfl,rfl⟩,Φ,μ,ω',?_⟩
      ·have hsz:(a.eval (.tmp s)).cells.size=i.size:=by
        have:a.eval (.tmp s)=a.tmps.getD s undef:=rfl
        rw [this,o2]
        have h1:=hc.1
        rw [g6] at h1
        exact h1.symm
       have hcl:(a.eval (.tmp s)).cells.toList = [a.tmps.getD s undef]:=by
        have:a.eval (.tmp s)=a.tmps.getD s undef:=rfl
        rw [this,o2]
       have r1':=r1
       simp only [Array.getD_eq_getD_getElem?] at r1'
       simp [execOp,Instr.storeAt,Instr.sureAddr,hv,storeVar,run_size g1,hsz,hcl,r1']
      ·have e1:upd (upd σ.b j (some (splice bs off [.sl n k cs none]))) j (some ((splice bs off [.sl n k cs none]).set off (.sl n k cs (some E))))=upd σ.b j (some (bs.set off (.sl n k cs (some E)))):=by
        have e2:(splice bs off [.sl n k cs none]).set off (.sl n k cs (some E))=bs.set off (.sl n k cs (some E)):=by
         apply List.ext_getElem?
         intro q
         simp only [List.getElem?_set,splice,List.length_append,List.length_take,List.length_drop,List.length_cons,List.length_nil]
         by_cases hq:off=q
         ·subst hq
          rw [if_pos rfl,if_pos rfl,if_pos (by omega),if_pos (by omega)]
         ·rw [if_neg hq,if_neg hq]
          by_cases hql:q < off
          ·rw [List.append_assoc,List.getElem?_append_left (by rw [List.length_take];omega),List.getElem?_take,if_pos hql]
          ·rw [List.getElem?_append_right (by rw [List.length_append,List.length_take];simp;omega),List.length_append,List.length_take,List.getElem?_drop]
           congr 1
           simp;omega
        rw [e2]
        funext q;simp only [upd_if];by_cases hq:q=j<;>simp [hq]
       simp only at r3
       rw [e1] at r3
       simp only [PS.app,ownPV,disOf,hs,List.foldl_nil,List.foldl_cons] at r3 ⊢
       exact r3
     ·cases hp
    ·cases hp
   ·split at hp
    ·rename_i bs ti new hb ht hnew
     split at hp
     ·rename_i hc
      cases hp
      have hcr:=pcells_sound (h.ev y) hnew
      obtain ⟨w',r1,r2⟩:=h.store (P:=P) hb hcr hc.2 hg
      rw [←splF_eq bs off new hc.2] at r2
      obtain ⟨i,dd,z,g1,g2,g3,g4,g5,g6⟩:=tyI_parts (tab_at hT ht)
      refine ⟨_,undef,w',?_, .inr ⟨rfl,rfl⟩,Φ,μ,ω,r2⟩
      have hsz:(a.eval y).cells.size=i.size:=by
       have:=hcr.1.1
       simp only [Array.length_toList] at this
       rw [this,hc.1,g6]
      simp [execOp,Instr.storeAt,Instr.sureAddr,hv,storeVar,run_size g1,hsz,r1]
     ·cases hp
    ·cases hp
  ·cases hp
 ·rename_i t x
  obtain ⟨d,rfl⟩:=Option.isSome_iff_exists.1 (hkind.2 rfl)
  split at hp
  ·rename_i E' hE
   cases hp
   unfold ploadO at hE
   split at hE
   ·rename_i j off hx
    split at hE
    ·split at hE
     ·rename_i bs hb
      split at hE
      ·rename_i n k cs E hbo
       split at hE
       ·rename_i ti ht
        split at hE
        ·rename_i hag
         cases hE
         have hxr:=h.ev x
         rw [hx] at hxr
         obtain ⟨g,hg,hv⟩:=hxr.ptr_inv
         obtain ⟨u,ω',hc,h'⟩:=h.fetch (d:=d) (hdst d rfl) hb hbo hg
         obtain ⟨i,dd,z,g1,g2,g3,g4,g5,g6⟩:=tyI_parts (tab_at hT ht)
         have hagg:aggD dd=false:=by rw [g6] at hag;exact hag
         refine ⟨_,u,w,?_, .inl rfl,Φ,μ,ω',h'⟩
         simp [execOp,Instr.loadAt,Instr.sureAddr,hv,loadVar,run_isAgg g2,hagg,hc]
        ·cases hE
       ·cases hE
      ·cases hE
     ·cases hE
    ·cases hE
   ·cases hE
  ·exact other E hp
 ·rename_i t len parts
  obtain ⟨d,rfl⟩:=Option.isSome_iff_exists.1 (hkind.2 rfl)
  split at hp
  ·rename_i ti ht
   split at hp
   ·rename_i e k by_ zr hk
    split at hp
    ·rename_i hle0
     obtain ⟨hle,hle2⟩:=hle0
     obtain ⟨cs,hcs,rfl⟩:=Option.map_eq_some_iff.1 hp
     obtain ⟨hu,i,z,e1,e2,e3,e4,e5,e6,e7,e8⟩:=slice_get (tab_at hT ht) hk
     subst e8
     have hzr:=zero_rows (Φ:=Φ) (μ:=μ) (len:=len) (z:=z.cells) e5 e6 (repL_pv0 _) e7 (by intro c hc;obtain ⟨v,-,rfl⟩:=List.mem_map.1 hc;exact pv0_own v)
     obtain ⟨cur,r1,r2⟩:=fill_sound (fun i=>some (i * k,k)) _ (parts.toList.map fun (x:Nat×Operand)=>(x.1,a.eval x.2)) _ _ _ hzr (by simp) (parts_rep h parts) hcs
     have hlen:cs.length=len * k:=by
      have hl:∀(ps:List (Nat×PV)) (c0 c1:List PV),pfill (fun i=>some (i * k,k)) c0 ps=some c1→c1.length=c0.length:=by
       intro ps
       induction ps with
       |nil=>intro c0 c1 hh;simp [pfill] at hh;rw [hh]
       |cons x ps ih=>
        intro c0 c1 hh
        simp only [pfill] at hh
        split at hh
        ·rename_i off size new hpl hnew
         split at hh
         ·rename_i hcc
          rw [ih _ _ hh,splF_eq _ _ _ (by omega)]
          simp only [splice,List.length_append,List.length_take,List.length_drop];omega
         ·cases hh
        ·cases hh
      rw [hl _ _ _ hcs,←hzr.1.1];simp
     have hcl:=r2.1.1
     simp only [Array.length_toList] at hcl
     obtain ⟨Φ',ω',h',-⟩:=h.newOwn (d:=d) (hdst d rfl) (N:=len) (k:=k) (cap:=len) (L:=cs) (cur:=cur) (e:=e) hlen (by rw [List.take_of_length_le (by simp;omega)];exact r2.1) (Nat.le_refl _) (by
      have:len≤len * k:=Nat.le_mul_of_pos_right _ e6
      unfold maxLen;omega) (by omega) hle2
     refine ⟨_, .slice (some ⟨w.heap.size,0,none⟩) len len,w.alloc (.cells cur e),?_, .inl rfl,Φ',μ,ω',h'⟩
     have hnle:¬(len * k > 2 ^ 24):=by omega
     simp only [execOp,Instr.buildSlice,Sem.run_bind,run_underlying hu,Result.andThen_ok,run_size e1,e3,hnle,if_false]
     by_cases hz0:len * k=0
     ·have hr0:((Array.range (len * k)).map (fun i=>z.cells[i % z.cells.size]!)) = #[]:=by rw [hz0];simp
      rw [hr0] at r1
      have hr1:(Array.map (fun (_:Nat)=>(default:Value)) (Array.range 0)) = #[]:=by simp
      simp [hz0,hr1,r1,newRow]
     ·simp only [hz0,if_false,Sem.run_bind,zeroValue,typeInfo,run_program,Result.andThen_ok,e1,e2,Sem.run_pure,Array.toList_map,r1]
      rfl
    ·cases hp
   ·cases hp
  ·cases hp
 ·rename_i t l c
  obtain ⟨d,rfl⟩:=Option.isSome_iff_exists.1 (hkind.2 rfl)
  split at hp
  ·rename_i ti kx x ky y ht hx hy hb hmb
   split at hp
   ·rename_i e k by_ zr hk
    split at hp
    ·rename_i r hm
     cases hp
     unfold pmake at hm
     split at hm
     ·rename_i hc
      obtain ⟨c1,rfl,c3,c4⟩:=hc
      cases hm
      obtain ⟨hu,i,z,e1,e2,e3,e4,e5,e6,e7,e8⟩:=slice_get (tab_at hT ht) hk
      subst e8
      have hzr:=zero_rows (Φ:=Φ) (μ:=μ) (len:=x.toNat) (z:=z.cells) e5 e6 (repL_pv0 _) e7 (by intro c hc;obtain ⟨v,-,rfl⟩:=List.mem_map.1 hc;exact pv0_own v)
      have h1:=h.newBox hidl hb hmb hzr.1 hzr.2.1 hzr.2.2 e
      have h2:=h1.put (d:=d) (hdst d rfl) (p:=.msl id 0 x.toNat k) (v:=.slice (some ⟨w.heap.size,0,none⟩) x.toNat x.toNat) (.msl id 0 x.toNat k _ _ (fun _=>⟨w.heap.size,by simp [upd_if],rfl⟩) (Nat.le_refl _) (by unfold maxLen;omega)) rfl
      refine ⟨_, .slice (some ⟨w.heap.size,0,none⟩) x.toNat x.toNat,w.alloc (.cells ((Array.range (x.toNat * k)).map (fun i=>z.cells[i % z.cells.size]!)) e),?_, .inl rfl,Φ,_,_,by rw [Array.toArray_toList] at h2;exact h2⟩
      have hxr:=h.ev l
      rw [hx] at hxr
      obtain ⟨hxv,-⟩:=hxr.val_inv
      have hyr:=h.ev c
      rw [hy] at hyr
      obtain ⟨hyv,-⟩:=hyr.val_inv
      have w1:IntKind.i64.wrap x=x:=IntWalk.i64_in x ⟨by omega,by omega⟩
      have n1:¬x < 0:=by omega
      have p48:(2:Int) ^ 48=281474976710656:=by decide
      have n2:¬((2:Int) ^ 48 < (i.bytes:Int) * x):=by rw [e4,p48];omega
      simp only [execOp,hxv,hyv,Instr.makeSlice,Sem.run_bind,run_underlying hu,Result.andThen_ok,asInt,asIntOf,typeInfo,run_program,e1,Sem.run_pure,w1]
      have n3:¬x > x:=by omega
      simp only [n1,decide_false,Bool.false_or,n2,gt_iff_lt,Bool.or_self,Int.lt_irrefl,if_false,Bool.false_eq_true,run_askRoom,Result.andThen_ok,run_size e1,e3,zeroValue,typeInfo,run_program,e1,e2]
      by_cases hz0:x.toNat * k=0
      ·have hr1:(Array.map (fun (_:Nat)=>(default:Value)) (Array.range 0)) = #[]:=by simp
       simp [hz0,newRow,run_size e1,e3]
       have hr2:(Array.map (fun i=>z.cells[i % z.cells.size]!) (Array.range 0)) = #[]:=by simp
       rw [hr1,hr2]
      ·simp only [hz0,if_false,Sem.run_bind,run_size e1,e3,zeroValue,typeInfo,run_program,Result.andThen_ok,e1,e2,Sem.run_pure,run_askRoom]
       rfl
     ·cases hm
    ·cases hp
   ·cases hp
  ·cases hp
 ·rename_i c
  obtain ⟨callee,args,argTypes⟩:=c
  simp only at hp
  split at hp
  ·split at hp
   ·rename_i s x t t' ea et
    obtain rfl:args = #[s,x]:=by rw [←Array.toArray_toList (xs:=args),ea]
    obtain rfl:argTypes = #[t,t']:=by rw [←Array.toArray_toList (xs:=argTypes),et]
    obtain ⟨d,rfl⟩:=Option.isSome_iff_exists.1 (hkind.2 rfl)
    split at hp
    ·rename_i htt
     subst htt
     split at hp
     ·rename_i ti ht
      split at hp
      ·rename_i e k by_ zr hk
       exact does_append h _ rfl (hdst d rfl) rfl (tab_at hT ht) hk hp
      ·cases hp
     ·cases hp
    ·cases hp
   ·cases hp
  ·exact other E hp
 ·rename_i hne1 hne2 hne3 hne4 hne5 hne6 hne7 hne8 hne9
  exact other E hp
end
end Go.Proofs.YtoamkpgaaanafaaGreat
