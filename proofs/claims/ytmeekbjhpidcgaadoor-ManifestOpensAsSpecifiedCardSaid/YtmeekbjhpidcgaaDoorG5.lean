/- Out of: PwD, PwE, Re, Rf, Rg. -/
import Derived.Test.YtmeekbjhpidcgaaDoorG3
namespace Go.Proofs.YtmeekbjhpidcgaaDoor
set_option linter.unusedSimpArgs false
set_option linter.unusedVariables false
set_option linter.unnecessarySimpa false
section
open Go.RowKit
def pbin (op:BinOp):Value→Value→Option Value
 | .int k x, .int k' y=>
  match op with
  | .shl=>if 0≤y then some (.int k (k.wrap (x * 2 ^ (min y.toNat k.bits)))) else none
  | .shr=>if 0≤y then some (.int k (x.fdiv (2 ^ (min y.toNat k.bits)))) else none
  | .add=>if k=k' then some (.int k (k.wrap (x+y))) else none
  | .sub=>if k=k' then some (.int k (k.wrap (x - y))) else none
  | .mul=>if k=k' then some (.int k (k.wrap (x * y))) else none
  | .quo=>if k=k'∧y≠0 then some (.int k (k.wrap (x.tdiv y))) else none
  | .rem=>if k=k'∧y≠0 then some (.int k (x.tmod y)) else none
  | .and=>if k=k' then some (.int k (k.wrap (BitVec.ofInt k.bits x &&& BitVec.ofInt k.bits y).toNat)) else none
  | .or=>if k=k' then some (.int k (k.wrap (BitVec.ofInt k.bits x ||| BitVec.ofInt k.bits y).toNat)) else none
  | .xor=>if k=k' then some (.int k (k.wrap (BitVec.ofInt k.bits x ^^^ BitVec.ofInt k.bits y).toNat)) else none
  | .eql=>if k=k' then some (.bool (x == y)) else none
  | .neq=>if k=k' then some (.bool (x != y)) else none
  | .lss=>if k=k' then some (.bool (decide (x < y))) else none
  | .leq=>if k=k' then some (.bool (decide (x≤y))) else none
  | .gtr=>if k=k' then some (.bool (decide (x > y))) else none
  | .geq=>if k=k' then some (.bool (decide (x≥y))) else none
  |_=>none
 | .string x, .string y=>
  match op with
  | .eql=>some (.bool (x.toList == y.toList))
  | .neq=>some (.bool !(x.toList == y.toList))
  | .lss=>some (.bool (Op.bytesLess x.toList y.toList))
  | .leq=>some (.bool (Op.bytesLess x.toList y.toList || x.toList == y.toList))
  | .gtr=>some (.bool !(Op.bytesLess x.toList y.toList || x.toList == y.toList))
  | .geq=>some (.bool !(Op.bytesLess x.toList y.toList))
  |_=>none
 |_,_=>none
theorem pbin_sound {P : Program} {w : World} {op : BinOp} {t : TypeId} {x y : Operand} {u v r : Value} (h : pbin op u v = some r) : (do eqGuard op t x y u v; binOp op t u v : Sem Value).run P w = .ok r w ∧ plainV r = true := by
  unfold pbin at h
  split at h
  · rename_i k a k' b
    have hg : (eqGuard op t x y (.int k a) (.int k' b)).run P w = .ok () w := by
      unfold eqGuard; split <;> simp
    rw [Sem.run_bind, hg, Result.andThen_ok]
    cases op <;> simp only [] at h <;> first
      | (cases h; done)
      | (split at h
         · rename_i hk
           cases h
           refine ⟨?_, rfl⟩
           first
             | (obtain ⟨rfl, hy⟩ := hk; simp [binOp, Op.intDiv, hy]; done)
             | (subst hk; simp [binOp, Op.intArith, Op.intBits, Op.intCmp]; done)
             | (simp [binOp, Op.shift, Int.not_lt.2 hk]; done)
         · cases h)
  · rename_i a b
    have hg : (eqGuard op t x y (.string a) (.string b)).run P w = .ok () w := by
      unfold eqGuard; split <;> simp
    rw [Sem.run_bind, hg, Result.andThen_ok]
    cases op <;> simp only [] at h <;> first
      | (cases h; done)
      | (cases h; exact ⟨by simp [binOp, Op.stringOp], rfl⟩)
  · cases h
def pbinB (op:BinOp):TD→Value→Value→Option Value
 | .bool, .bool a, .bool b=>match op with
  | .eql=>some (.bool (a == b))
  | .neq=>some (.bool (a != b))
  |_=>none
 |_,_,_=>none
theorem pbinB_sound {P:Program} {w:World} {op:BinOp} {t:TypeId} {x y:Operand} {u v r:Value} {ti:TyI} (ht:tyI P t=some ti) (h:pbinB op ti.kind u v=some r):(do eqGuard op t x y u v;binOp op t u v:Sem Value).run P w = .ok r w∧plainV r=true:=by
 obtain ⟨i,d,z,h1,h2,h3,h4,-,rfl⟩:=tyI_parts ht
 simp only at h
 unfold pbinB at h
 split at h
 ·rename_i a b hd
  have hd' : d = .bool:=by
   cases d with
   |bool=>rfl
   |slice e=>simp only [tdOf] at hd;split at hd<;>(try split at hd)<;>(try split at hd)<;>cases hd
   |struct fs=>simp only [tdOf] at hd;split at hd<;>cases hd
   |array n e=>simp only [tdOf] at hd;split at hd<;>cases hd
   |pointer e=>simp only [tdOf] at hd;split at hd<;>(try split at hd)<;>cases hd
   |_=>cases hd
  subst hd'
  have hg:(eqGuard op t x y (.bool a) (.bool b)).run P w = .ok () w:=by
   unfold eqGuard;split<;>simp
  rw [Sem.run_bind,hg,Result.andThen_ok]
  have he:(Op.equal t (.bool a) (.bool b)).run P w = .ok (a == b) w:=by
   unfold Op.equal
   rw [show Op.maxDepth=9999+1 from rfl,Op.equalIn]
   simp only [Sem.run_bind,run_underlying h2,Result.andThen_ok]
   simp
  cases op<;>simp only [] at h<;>first
   |(cases h;done)
   |(cases h;exact ⟨by simp only [binOp,Sem.run_bind,he,Result.andThen_ok];simp [bne],rfl⟩)
 ·cases h
def pun (op:UnOp):Value→Option Value
 | .bool b=>match op with
  | .not=>some (.bool !b)
  |_=>none
 | .int k n=>match op with
  | .neg=>some (.int k (k.wrap (0 - n)))
  | .xor=>some (.int k (k.wrap (BitVec.ofInt k.bits (if k.signed then -1 else k.max) ^^^ BitVec.ofInt k.bits n).toNat))
  |_=>none
 |_=>none
theorem pun_sound {P:Program} {w:World} {op:UnOp} {u r:Value} (h:pun op u=some r):(Op.unary op u).run P w = .ok r w∧plainV r=true:=by
 unfold pun at h
 split at h
 ·cases op<;>simp only [] at h<;>first|(cases h;done)|(cases h;exact ⟨by simp [Op.unary],rfl⟩)
 ·cases op<;>simp only [] at h<;>first|(cases h;done)|(cases h;refine ⟨?_,rfl⟩;simp [Op.unary,Op.intArith];done)|(cases h;refine ⟨?_,rfl⟩;simp [Op.unary,Op.intBits];done)
 ·cases h
def pfield (l:List (Nat×Nat×Bool)) (f:Nat):PV→Option PV
 | .ptr id o=>match l[f]? with
  |some (off,size,_)=>if size≠0 then some (.ptr id (o+off)) else none
  |none=>none
 | .ep cs o=>match l[f]? with
  |some (off,size,_)=>if size≠0 then some (.ep cs (o+off)) else none
  |none=>none
 |_=>none
theorem mapM_get {α β:Type} (g:α→Option β):∀(l:List α) (r:List β),l.mapM g=some r→∀(j:Nat) b,r[j]? = some b→∃x,l[j]? = some x∧g x=some b
 | [],r,h,j,b,hj=>by simp at h;subst h;simp at hj
 |x :: l,r,h,j,b,hj=>by
  rw [List.mapM_cons] at h
  cases hx:g x with
  |none=>rw [hx] at h;simp at h
  |some y=>
   rw [hx] at h
   cases hl:l.mapM g with
   |none=>rw [hl] at h;simp at h
   |some r' =>
    rw [hl] at h
    simp at h
    subst h
    cases j with
    |zero=>simp at hj;subst hj;exact ⟨x,rfl,hx⟩
    |succ j=>simp at hj;simpa using mapM_get g l r' hl j b hj
theorem mapM_len {α β:Type} (g:α→Option β):∀(l:List α) (r:List β),l.mapM g=some r→r.length=l.length
 | [],r,h=>by simp at h;subst h;rfl
 |x :: l,r,h=>by
  rw [List.mapM_cons] at h
  cases hx:g x with
  |none=>rw [hx] at h;simp at h
  |some y=>
   rw [hx] at h
   cases hl:l.mapM g with
   |none=>rw [hl] at h;simp at h
   |some r' =>
    rw [hl] at h
    simp at h
    subst h
    simp [mapM_len g l r' hl]
theorem struct_get {P:Program} {t:TypeId} {ti:TyI} (ht:tyI P t=some ti) {l:List (Nat×Nat×Bool)} (hk:ti.kind = .struct l):∃fs,P.underlying t=some (.struct fs)∧l.length=fs.size ∧
  ∀(f off size:Nat) (agg:Bool),l[f]? = some (off,size,agg)→∃(fd:Field) (i:TypeInfo) (d:TypeDesc),fs[f]? = some fd∧fd.offset=off∧P.info? fd.type=some i∧i.size=size∧P.underlying fd.type=some d∧aggD d=agg:=by
 obtain ⟨i,d,z,h1,h2,h3,h4,-,rfl⟩:=tyI_parts ht
 simp only at hk
 have:∃fs,d = .struct fs:=by
  cases d with
  |struct fs=>exact ⟨fs,rfl⟩
  |slice e=>simp only [tdOf] at hk;split at hk<;>(try split at hk)<;>(try split at hk)<;>cases hk
  |array n e=>simp only [tdOf] at hk;split at hk<;>cases hk
  |pointer e=>simp only [tdOf] at hk;split at hk<;>(try split at hk)<;>cases hk
  |_=>cases hk
 obtain ⟨fs,rfl⟩:=this
 simp only [tdOf] at hk
 split at hk
 ·rename_i l' hm
  cases hk
  refine ⟨fs,h2,by simpa using mapM_len _ _ _ hm,fun f off size agg hl=>?_⟩
  obtain ⟨fd,hf,hg⟩:=mapM_get _ _ _ hm f _ hl
  split at hg
  ·rename_i i' d' e1 e2
   simp only [Option.some.injEq,Prod.mk.injEq] at hg
   exact ⟨fd,i',d',by simpa using hf,hg.1,e1,hg.2.1,e2,hg.2.2⟩
  ·cases hg
 ·cases hk
theorem slice_get {P:Program} {t:TypeId} {ti:TyI} (ht:tyI P t=some ti) {e k by_:Nat} {zr:List PV} (hk:ti.kind = .slice e k by_ zr):P.underlying t=some (.slice e) ∧
  ∃(i:TypeInfo) (z:Value),P.info? e=some i∧i.zero=some z∧i.size=k∧i.bytes=by_∧z.cells.size=k∧0 < k∧(∀c∈z.cells.toList,c.oneCell' = true)∧zr=z.cells.toList.map pv0:=by
 obtain ⟨i,d,z,h1,h2,h3,h4,-,rfl⟩:=tyI_parts ht
 simp only at hk
 have:∃e,d = .slice e:=by
  cases d with
  |slice e=>exact ⟨e,rfl⟩
  |struct fs=>simp only [tdOf] at hk;split at hk<;>cases hk
  |array n e=>simp only [tdOf] at hk;split at hk<;>cases hk
  |pointer e=>simp only [tdOf] at hk;split at hk<;>(try split at hk)<;>cases hk
  |_=>cases hk
 obtain ⟨e',rfl⟩:=this
 simp only [tdOf] at hk
 split at hk
 ·rename_i i' hi
  split at hk
  ·rename_i z' hz
   split at hk
   ·rename_i hc
    cases hk
    exact ⟨h2,i',z',hi,hz,rfl,rfl,by simpa using hc.1,hc.2.1,fun c hcm=>List.all_eq_true.1 hc.2.2 c hcm,rfl⟩
   ·cases hk
  ·cases hk
 ·cases hk
theorem arr_get {P:Program} {t:TypeId} {ti:TyI} (ht:tyI P t=some ti) {n e k:Nat} {ag:Bool} (hk:ti.kind = .arr n e k ag):P.underlying t=some (.array n e)∧∃(i:TypeInfo) (d:TypeDesc),P.info? e=some i∧i.size=k∧P.underlying e=some d∧aggD d=ag:=by
 obtain ⟨i,d,z,h1,h2,h3,h4,-,rfl⟩:=tyI_parts ht
 simp only at hk
 have:∃n e,d = .array n e:=by
  cases d with
  |array n e=>exact ⟨n,e,rfl⟩
  |struct fs=>simp only [tdOf] at hk;split at hk<;>cases hk
  |slice e=>simp only [tdOf] at hk;split at hk<;>(try split at hk)<;>(try split at hk)<;>cases hk
  |pointer e=>simp only [tdOf] at hk;split at hk<;>(try split at hk)<;>cases hk
  |_=>cases hk
 obtain ⟨n',e',rfl⟩:=this
 simp only [tdOf] at hk
 split at hk
 ·rename_i i' d' hi hd
  cases hk
  exact ⟨h2,i',d',hi,rfl,hd,rfl⟩
 ·cases hk
theorem parr_get {P:Program} {t:TypeId} {ti:TyI} (ht:tyI P t=some ti) {n e k:Nat} (hk:ti.kind = .parr n e k):∃t',P.underlying t=some (.pointer t')∧P.underlying t' = some (.array n e)∧∃(i:TypeInfo),P.info? e=some i∧i.size=k:=by
 obtain ⟨i,d,z,h1,h2,h3,h4,-,rfl⟩:=tyI_parts ht
 simp only at hk
 have:∃t',d = .pointer t':=by
  cases d with
  |pointer e=>exact ⟨e,rfl⟩
  |struct fs=>simp only [tdOf] at hk;split at hk<;>cases hk
  |slice e=>simp only [tdOf] at hk;split at hk<;>(try split at hk)<;>(try split at hk)<;>cases hk
  |array n e=>simp only [tdOf] at hk;split at hk<;>cases hk
  |_=>cases hk
 obtain ⟨t',rfl⟩:=this
 simp only [tdOf] at hk
 split at hk
 ·rename_i n' e' hu
  split at hk
  ·rename_i i' hi
   cases hk
   exact ⟨t',h2,hu,i',hi,rfl⟩
  ·cases hk
 ·cases hk
 ·cases hk
theorem kind_ptr {P:Program} {t:TypeId} {ti:TyI} (ht:tyI P t=some ti) (hk:ti.kind = .ptr):∃e,P.underlying t=some (.pointer e):=by
 obtain ⟨i,d,z,h1,h2,h3,h4,-,rfl⟩:=tyI_parts ht
 simp only at hk
 cases d with
 |pointer e=>exact ⟨e,h2⟩
 |struct fs=>simp only [tdOf] at hk;split at hk<;>cases hk
 |slice e=>simp only [tdOf] at hk;split at hk<;>(try split at hk)<;>(try split at hk)<;>cases hk
 |array n e=>simp only [tdOf] at hk;split at hk<;>cases hk
 |_=>cases hk
theorem kind_func {P:Program} {t:TypeId} {ti:TyI} (ht:tyI P t=some ti) (hk:ti.kind = .func):∃p r v,P.underlying t=some (.func p r v):=by
 obtain ⟨i,d,z,h1,h2,h3,h4,-,rfl⟩:=tyI_parts ht
 simp only at hk
 cases d with
 |func p r v=>exact ⟨p,r,v,h2⟩
 |struct fs=>simp only [tdOf] at hk;split at hk<;>cases hk
 |slice e=>simp only [tdOf] at hk;split at hk<;>(try split at hk)<;>(try split at hk)<;>cases hk
 |array n e=>simp only [tdOf] at hk;split at hk<;>cases hk
 |pointer e=>simp only [tdOf] at hk;split at hk<;>(try split at hk)<;>cases hk
 |_=>cases hk
theorem kind_map {P:Program} {t:TypeId} {ti:TyI} (ht:tyI P t=some ti) {k e:TypeId} (hk:ti.kind = .map k e):P.underlying t=some (.map k e):=by
 obtain ⟨i,d,z,h1,h2,h3,h4,-,rfl⟩:=tyI_parts ht
 simp only at hk
 cases d with
 |map k' e' => cases hk;exact h2
 |struct fs=>simp only [tdOf] at hk;split at hk<;>cases hk
 |slice e=>simp only [tdOf] at hk;split at hk<;>(try split at hk)<;>(try split at hk)<;>cases hk
 |array n e=>simp only [tdOf] at hk;split at hk<;>cases hk
 |pointer e=>simp only [tdOf] at hk;split at hk<;>(try split at hk)<;>cases hk
 |_=>cases hk
theorem kind_int {P:Program} {t:TypeId} {ti:TyI} (ht:tyI P t=some ti) {k:IntKind} (hk:ti.kind = .int k):P.underlying t=some (.int k):=by
 obtain ⟨i,d,z,h1,h2,h3,h4,-,rfl⟩:=tyI_parts ht
 simp only at hk
 cases d with
 |int k' => cases hk;exact h2
 |struct fs=>simp only [tdOf] at hk;split at hk<;>cases hk
 |slice e=>simp only [tdOf] at hk;split at hk<;>(try split at hk)<;>(try split at hk)<;>cases hk
 |array n e=>simp only [tdOf] at hk;split at hk<;>cases hk
 |pointer e=>simp only [tdOf] at hk;split at hk<;>(try split at hk)<;>cases hk
 |_=>cases hk
theorem kind_str {P:Program} {t:TypeId} {ti:TyI} (ht:tyI P t=some ti) (hk:ti.kind = .str):P.underlying t=some .string:=by
 obtain ⟨i,d,z,h1,h2,h3,h4,-,rfl⟩:=tyI_parts ht
 simp only at hk
 cases d with
 |string=>exact h2
 |struct fs=>simp only [tdOf] at hk;split at hk<;>cases hk
 |slice e=>simp only [tdOf] at hk;split at hk<;>(try split at hk)<;>(try split at hk)<;>cases hk
 |array n e=>simp only [tdOf] at hk;split at hk<;>cases hk
 |pointer e=>simp only [tdOf] at hk;split at hk<;>(try split at hk)<;>cases hk
 |_=>cases hk
end
section
open Go.RowKit
variable {Φ:Imm} {μ:Nat→Option Nat} {w:World} {P:Program}
theorem field_sound {s:TypeId} {ti:TyI} (ht:tyI P s=some ti) {l:List (Nat×Nat×Bool)} (hk:ti.kind = .struct l) {q p:PV} {v:Value} {f:Nat} (hv:Rep Φ μ q v) (hp:pfield l f q=some p) :
  ∃u,(Instr.fieldAt s v f).run P w = .ok u w∧Rep Φ μ p u∧p.ownB=false:=by
 obtain ⟨fs,hu,-,hget⟩:=struct_get ht hk
 cases q with
 |ptr id o=>
  simp only [pfield] at hp
  split at hp
  ·rename_i off size agg hl
   split at hp
   ·rename_i hs
    cases hp
    obtain ⟨fd,i,d,e1,e2,e3,e4,-,-⟩:=hget f _ _ _ hl
    obtain ⟨g,hg,rfl⟩:=hv.ptr_inv
    refine ⟨.pointer (some ⟨g,o+off,none⟩),?_, .ptr _ _ g hg,rfl⟩
    have hsz:i.size≠0:=by rw [e4];exact hs
    simp [Instr.fieldAt,run_underlying hu,e1,Instr.sureAddr,fieldPlace,run_size e3,hsz,Addr.add_lit,e2]
   ·cases hp
  ·cases hp
 |ep cs o=>
  simp only [pfield] at hp
  split at hp
  ·rename_i off size agg hl
   split at hp
   ·rename_i hs
    cases hp
    obtain ⟨fd,i,d,e1,e2,e3,e4,-,-⟩:=hget f _ _ _ hl
    obtain ⟨b,o',us,rfl,k1,k2⟩:=hv.ep_inv
    refine ⟨.pointer (some ⟨b,o' + (o+off),none⟩),?_, .ep _ _ b o' us k1 k2,rfl⟩
    have hsz:i.size≠0:=by rw [e4];exact hs
    simp [Instr.fieldAt,run_underlying hu,e1,Instr.sureAddr,fieldPlace,run_size e3,hsz,Addr.add_lit,e2,Nat.add_assoc]
   ·cases hp
  ·cases hp
 |_=>simp [pfield] at hp
def pindexAt (td:TD):PV→PV→Option PV
 | .sl n k cs _, .val (.int _ i)=>match td with
  | .slice _ k' _ _=>if k' = k∧0≤i∧i < n then some (.ep cs (i.toNat * k)) else none
  |_=>none
 | .msl id o n k, .val (.int _ i)=>match td with
  | .slice _ k' _ _=>if k' = k∧0≤i∧i < n then some (.ptr id (o+i.toNat * k)) else none
  |_=>none
 | .ptr id o, .val (.int _ i)=>match td with
  | .arr n _ k _=>if 0≤i∧i < n then some (.ptr id (o+i.toNat * k)) else none
  |_=>none
 | .ep cs o, .val (.int _ i)=>match td with
  | .arr n _ k _=>if 0≤i∧i < n then some (.ep cs (o+i.toNat * k)) else none
  |_=>none
 |_,_=>none
theorem index_sound {t:TypeId} {ti:TyI} (ht:tyI P t=some ti) {q x p:PV} {v u:Value} (hv:Rep Φ μ q v) (hx:Rep Φ μ x u) (hp:pindexAt ti.kind q x=some p) :
  ∃r,(Instr.indexAt t v u).run P w = .ok r w∧Rep Φ μ p r∧p.ownB=false:=by
 unfold pindexAt at hp
 split at hp
 ·rename_i n k cs own ik i
  obtain ⟨rfl,-⟩:=hx.val_inv
  split at hp
  ·rename_i e k' by_ zr hk
   split at hp
   ·rename_i hc
    obtain ⟨rfl,h0,hn⟩:=hc
    cases hp
    obtain ⟨hu,i',z',e1,e2,e3,e4,e5,e6,-,-⟩:=slice_get ht hk
    obtain ⟨a,b,off,cap,us,rfl,c1,c2,c3,c4,c5,c6⟩:=hv.sl_inv
    obtain rfl:=c4 (by omega)
    refine ⟨.pointer (some ⟨b,off+i.toNat * k',none⟩),?_, .ep _ _ b off us c5 c6,rfl⟩
    simp [Instr.indexAt,asIntOf,run_underlying hu,h0,hn,run_size e1,e3,Addr.add_lit]
   ·cases hp
  ·cases hp
 ·rename_i id o n k ik i
  obtain ⟨rfl,-⟩:=hx.val_inv
  split at hp
  ·rename_i e k' by_ zr hk
   split at hp
   ·rename_i hc
    obtain ⟨rfl,h0,hn⟩:=hc
    cases hp
    obtain ⟨hu,i',z',e1,e2,e3,e4,e5,e6,-,-⟩:=slice_get ht hk
    obtain ⟨a,cap,rfl,c1,c2,c4⟩:=hv.msl_inv
    obtain ⟨g,hg,rfl⟩:=c4 (by omega)
    refine ⟨.pointer (some ⟨g,o+i.toNat * k',none⟩),?_, .ptr _ _ g hg,rfl⟩
    simp [Instr.indexAt,asIntOf,run_underlying hu,h0,hn,run_size e1,e3,Addr.add_lit]
   ·cases hp
  ·cases hp
 ·rename_i id o ik i
  obtain ⟨rfl,-⟩:=hx.val_inv
  split at hp
  ·rename_i n e k ag hk
   split at hp
   ·rename_i hc
    cases hp
    obtain ⟨hu,i',d',e1,e2,e3,e4⟩:=arr_get ht hk
    obtain ⟨g,hg,rfl⟩:=hv.ptr_inv
    refine ⟨.pointer (some ⟨g,o+i.toNat * k,none⟩),?_, .ptr _ _ g hg,rfl⟩
    simp [Instr.indexAt,asIntOf,run_underlying hu,hc.1,hc.2,run_size e1,e2,Addr.add_lit,Instr.sureAddr]
   ·cases hp
  ·cases hp
 ·rename_i cs o ik i
  obtain ⟨rfl,-⟩:=hx.val_inv
  split at hp
  ·rename_i n e k ag hk
   split at hp
   ·rename_i hc
    cases hp
    obtain ⟨hu,i',d',e1,e2,e3,e4⟩:=arr_get ht hk
    obtain ⟨b,o',us,rfl,k1,k2⟩:=hv.ep_inv
    refine ⟨.pointer (some ⟨b,o' + (o+i.toNat * k),none⟩),?_, .ep _ _ b o' us k1 k2,rfl⟩
    simp [Instr.indexAt,asIntOf,run_underlying hu,hc.1,hc.2,run_size e1,e2,Addr.add_lit,Instr.sureAddr,Nat.add_assoc]
   ·cases hp
  ·cases hp
 ·cases hp
end
section
open Go.RowKit
def pbound (dflt:Nat) (m:Nat):Option PV→Option Nat
 |none=>some dflt
 |some (.val (.int _ i))=>if 0≤i∧i≤m then some i.toNat else none
 |_=>none
def pslice (td:TD) (x:PV) (lo hi:Option PV):Option PV:=
 match x with
 | .ptr id o=>match td with
  | .arr n _ k _=>match pbound n n hi with
   |some h=>match pbound 0 h lo with
    |some l=>if n≤1000000000 then some (.msl id (o+l * k) (h - l) k) else none
    |none=>none
   |none=>none
  | .parr n _ k=>match pbound n n hi with
   |some h=>match pbound 0 h lo with
    |some l=>if n≤1000000000 then some (.msl id (o+l * k) (h - l) k) else none
    |none=>none
   |none=>none
  |_=>none
 | .msl id o n k=>match td with
  | .slice _ k' _ _=>if k' = k then
    match pbound n n hi with
    |some h=>match pbound 0 h lo with
     |some l=>some (.msl id (o+l * k) (h - l) k)
     |none=>none
    |none=>none
   else none
  |_=>none
 | .sl n k cs _=>match td with
  | .slice _ k' _ _=>if k' = k then
    match pbound n n hi with
    |some h=>match pbound 0 h lo with
     |some l=>some (.sl (h - l) k ((cs.drop (l * k)).take ((h - l) * k)) none)
     |none=>none
    |none=>none
   else none
  |_=>none
 | .val (.string s)=>match td with
  | .str=>match pbound s.size s.size hi with
    |some h=>match pbound 0 h lo with
     |some l=>some (.val (.string (s.extract l h)))
     |none=>none
    |none=>none
  |_=>none
 |_=>none
end
section
open Go.RowKit
variable {Φ:Imm} {μ:Nat→Option Nat} {w:World} {P:Program}
theorem bound_sound {d m l:Nat} {p:PV} {u:Value} (hr:Rep Φ μ p u) (hp:pbound d m (some p)=some l) (m' : Nat) (hm:m≤m') (code:BoundsCode):(Instr.sliceBound u m' code).run P w = .ok l w∧l≤m:=by
 unfold pbound at hp
 split at hp
 ·rename_i e;cases e
 ·rename_i k i e
  cases e
  obtain ⟨rfl,-⟩:=hr.val_inv
  split at hp
  ·rename_i hc
   cases hp
   refine ⟨?_,by omega⟩
   have h1:0≤i∧i≤(m' : Int):=⟨hc.1,by omega⟩
   simp [Instr.sliceBound,asIntOf,h1]
  ·cases hp
 ·cases hp
def RepO (Φ:Imm) (μ:Nat→Option Nat) (x:Option PV) (v:Option Value):Prop:=match x,v with
 |none,none=>True
 |some p,some u=>Rep Φ μ p u
 |_,_=>False
theorem bounds_sound {x y:Option PV} {vx vy:Option Value} (hx:RepO Φ μ x vx) (hy:RepO Φ μ y vy) {n h l cap:Nat} {isS:Bool} (hn:n≤cap) (h1:pbound n n y=some h) (h2:pbound 0 h x=some l) :
  (Instr.sliceBounds isS n cap vx vy none).run P w = .ok (l,h,cap) w∧l≤h∧h≤n:=by
 have a1:∀code,(match vy with|some v=>Instr.sliceBound v cap code|none=>pure n:Sem Nat).run P w = .ok h w∧h≤n:=by
  intro code
  cases y with
  |none=>cases vy with
   |none=>simp [pbound] at h1;subst h1;simp
   |some v=>exact hy.elim
  |some p=>cases vy with
   |none=>exact hy.elim
   |some v=>exact bound_sound hy h1 cap hn code
 have a2:∀code,(match vx with|some v=>Instr.sliceBound v h code|none=>pure 0:Sem Nat).run P w = .ok l w∧l≤h:=by
  intro code
  cases x with
  |none=>cases vx with
   |none=>simp [pbound] at h2;subst h2;simp
   |some v=>exact hx.elim
  |some p=>cases vx with
   |none=>exact hx.elim
   |some v=>exact bound_sound hx h2 h (Nat.le_refl _) code
 refine ⟨?_,(a2 .sliceB).2,(a1 .sliceB).2⟩
 unfold Instr.sliceBounds
 simp only [Sem.run_bind,Sem.run_pure,Result.andThen_ok]
 have b1:=(a1 (if isS=true then .sliceAcap else .sliceAlen)).1
 have b2:=(a2 .sliceB).1
 cases vy with
 |none=>
  simp only [Sem.run_pure] at b1
  cases b1
  cases vx with
  |none=>simp only [Sem.run_pure] at b2;cases b2;simp
  |some v=>simp only [] at b2;simp [b2]
 |some v=>
  simp only [] at b1
  cases vx with
  |none=>simp only [Sem.run_pure] at b2;cases b2;simp [b1]
  |some v=>simp only [] at b2;simp [b1,b2]
theorem slice_sound {t:TypeId} {ti:TyI} (ht:tyI P t=some ti) {q p:PV} {v:Value} {x y:Option PV} {vx vy:Option Value} (hv:Rep Φ μ q v) (hx:RepO Φ μ x vx) (hy:RepO Φ μ y vy) (hp:pslice ti.kind q x y=some p) :
  ∃r,(Instr.sliceAt t v vx vy none).run P w = .ok r w∧Rep Φ μ p r∧p.ownB=false:=by
 unfold pslice at hp
 split at hp
 ·rename_i id o
  split at hp
  ·rename_i n e k ag hk
   split at hp
   ·rename_i h hh
    split at hp
    ·rename_i l hl
     split at hp
     case isFalse=>cases hp
     rename_i hm0
     have hm:n≤maxLen:=by unfold maxLen;omega
     cases hp
     obtain ⟨hu,i',d',e1,e2,e3,e4⟩:=arr_get ht hk
     obtain ⟨g,hg,rfl⟩:=hv.ptr_inv
     obtain ⟨r1,r2,r3⟩:=bounds_sound (P:=P) (w:=w) (isS:=false) hx hy (Nat.le_refl n) hh hl
     refine ⟨.slice (some (if n=l then ⟨g,o,none⟩ else (⟨g,o,none⟩:Addr).add (l * k))) (h - l) (n - l),?_, .msl _ _ _ _ _ _ (fun hpos=>⟨g,hg,?_⟩) (by omega) (by omega),rfl⟩
     ·simp only [Instr.sliceAt,Sem.run_bind,run_underlying hu,Result.andThen_ok,Instr.sureAddr,r1,run_size e1,e2,Sem.run_pure]
     ·rw [if_neg (by omega),Addr.add_lit]
    ·cases hp
   ·cases hp
  ·rename_i n e k hk
   split at hp
   ·rename_i h hh
    split at hp
    ·rename_i l hl
     split at hp
     case isFalse=>cases hp
     rename_i hm0
     have hm:n≤maxLen:=by unfold maxLen;omega
     cases hp
     obtain ⟨t',hu,hu',i',e1,e2⟩:=parr_get ht hk
     obtain ⟨g,hg,rfl⟩:=hv.ptr_inv
     obtain ⟨r1,r2,r3⟩:=bounds_sound (P:=P) (w:=w) (isS:=false) hx hy (Nat.le_refl n) hh hl
     refine ⟨.slice (some (if n=l then ⟨g,o,none⟩ else (⟨g,o,none⟩:Addr).add (l * k))) (h - l) (n - l),?_, .msl _ _ _ _ _ _ (fun hpos=>⟨g,hg,?_⟩) (by omega) (by omega),rfl⟩
     ·simp only [Instr.sliceAt,Sem.run_bind,run_underlying hu,Result.andThen_ok,Instr.slice,asAddr,run_underlying hu',r1,run_size e1,e2,Sem.run_pure]
     ·rw [if_neg (by omega),Addr.add_lit]
    ·cases hp
   ·cases hp
  ·cases hp
 ·rename_i id o n k
  split at hp
  ·rename_i e k' by_ zr hk
   split at hp
   ·rename_i hkk
    subst hkk
    split at hp
    ·rename_i h hh
     split at hp
     ·rename_i l hl
      cases hp
      obtain ⟨hu,i',z',e1,e2,e3,e4,e5,e6,-,-⟩:=slice_get ht hk
      obtain ⟨a,cap,rfl,c1,c2,c4⟩:=hv.msl_inv
      obtain ⟨r1,r2,r3⟩:=bounds_sound (P:=P) (w:=w) (isS:=true) hx hy c1 hh hl
      refine ⟨.slice (if cap=l then a else a.map (·.add (l * k'))) (h - l) (cap - l),?_,?_,rfl⟩
      ·simp only [Instr.sliceAt,Sem.run_bind,run_underlying hu,Result.andThen_ok,Instr.slice,r1,run_size e1,e3,Sem.run_pure]
      ·refine .msl _ _ _ _ _ _ (fun hpos=>?_) (by omega) (by omega)
       obtain ⟨g,hg,rfl⟩:=c4 (by omega)
       rw [if_neg (by omega)]
       exact ⟨g,hg,by simp only [Option.map_some,Addr.add_lit]⟩
     ·cases hp
    ·cases hp
   ·cases hp
  ·cases hp
 ·rename_i n k cs own
  split at hp
  ·rename_i e k' by_ zr hk
   split at hp
   ·rename_i hkk
    subst hkk
    split at hp
    ·rename_i h hh
     split at hp
     ·rename_i l hl
      cases hp
      obtain ⟨hu,i',z',e1,e2,e3,e4,e5,e6,-,-⟩:=slice_get ht hk
      obtain ⟨a,b,off,cap,us,rfl,c1,c2,c3,c4,c5,c6⟩:=hv.sl_inv
      obtain ⟨r1,r2,r3⟩:=bounds_sound (P:=P) (w:=w) (isS:=true) hx hy c1 hh hl
      refine ⟨.slice (if cap=l then a else a.map (·.add (l * k'))) (h - l) (cap - l),?_,?_,rfl⟩
      ·simp only [Instr.sliceAt,Sem.run_bind,run_underlying hu,Result.andThen_ok,Instr.slice,r1,run_size e1,e3,Sem.run_pure]
      ·by_cases hz:h - l=0
       ·have:(cs.drop (l * k')).take ((h - l) * k') = []:=by rw [hz];simp
        rw [this,hz]
        exact .sl0 _ _ _ _ (by omega)
       ·obtain rfl:=c4 (by omega)
        rw [if_neg (by omega)]
        simp only [Option.map_some,Addr.add_lit]
        have hbig:l * k' + (h - l) * k'≤n * k':=by rw [←Nat.add_mul];exact Nat.mul_le_mul_right _ (by omega)
        refine .sl _ _ _ _ b (off+l * k') _ (fun j=>us (l * k' + j)) ?_ (by omega) (by omega) ?_ ?_
        ·rw [List.length_take,List.length_drop,c3];omega
        ·intro j hj
         rw [List.length_take,List.length_drop,c3] at hj
         rw [Nat.add_assoc]
         exact c5 _ (by omega)
        ·intro j c hc
         rw [List.getElem?_take] at hc
         split at hc
         ·rw [List.getElem?_drop] at hc;exact c6 _ _ hc
         ·cases hc
     ·cases hp
    ·cases hp
   ·cases hp
  ·cases hp
 ·rename_i s
  split at hp
  ·rename_i hk
   split at hp
   ·rename_i h hh
    split at hp
    ·rename_i l hl
     cases hp
     obtain ⟨rfl,-⟩:=hv.val_inv
     have hu:=kind_str ht hk
     obtain ⟨r1,r2,r3⟩:=bounds_sound (P:=P) (w:=w) (isS:=false) hx hy (Nat.le_refl s.size) hh hl
     refine ⟨.string (s.extract l h),?_, .val _ rfl,rfl⟩
     simp [Instr.sliceAt,run_underlying hu,Instr.slice,r1]
    ·cases hp
   ·cases hp
  ·cases hp
 ·cases hp
end
section
open Go.RowKit
def pcells:PV→Option (List PV)
 | .agg cs=>if cs.all PV.one then some (cs.map PV.bare) else none
 |p=>if p.one then some [p.bare] else none
def splice (cs:List PV) (off:Nat) (new:List PV):List PV:=cs.take off ++ new ++ cs.drop (off+new.length)
def splF:List PV→Nat→List PV→List PV
 |cs,0,[]=>cs
 |_ :: cs,0,n :: new=>n :: splF cs 0 new
 | [],0,n :: new=>n :: new
 |c :: cs,off+1,new=>c :: splF cs off new
 | [],_+1,new=>new
theorem splF_eq:∀(cs:List PV) (off:Nat) (new:List PV),off+new.length≤cs.length→splF cs off new=splice cs off new
 |cs,0,[],_=>by cases cs<;>simp [splF,splice]
 |c :: cs,0,n :: new,h=>by
  have:=splF_eq cs 0 new (by simp at h ⊢; omega)
  simp only [splF,this,splice]
  simp [Nat.add_comm]
 | [],0,n :: new,h=>by simp at h
 |c :: cs,off+1,new,h=>by
  have:=splF_eq cs off new (by simp at h;omega)
  simp only [splF,this,splice]
  rw [show off+1+new.length=(off+new.length)+1 by omega]
  simp
 | [],off+1,new,h=>by simp at h
def pfill (place:Nat→Option (Nat×Nat)) (cs:List PV):List (Nat×PV)→Option (List PV)
 | []=>some cs
 |(i,p) :: rest=>match place i,pcells p with
  |some (off,size),some new=>if new.length=size∧off+size≤cs.length then pfill place (splF cs off new) rest else none
  |_,_=>none
def CellsR (Φ:Imm) (μ:Nat→Option Nat) (cs:List PV) (us:List Value):Prop:=RepL Φ μ cs us∧(∀u∈us,u.oneCell' = true)∧∀c∈cs,c.ownB=false
theorem repL_bare {Φ:Imm} {μ:Nat→Option Nat} {cs:List PV} {us:List Value} (h:RepL Φ μ cs us):RepL Φ μ (cs.map PV.bare) us:=by
 refine ⟨by simp [h.1],fun j c u h1 h2=>?_⟩
 rw [List.getElem?_map] at h1
 obtain ⟨c',hc',rfl⟩:=Option.map_eq_some_iff.1 h1
 exact (h.2 j c' u hc' h2).bare
theorem repL_one {Φ:Imm} {μ:Nat→Option Nat} {cs:List PV} {us:List Value} (h:RepL Φ μ cs us) (ho:cs.all PV.one=true):∀u∈us,u.oneCell' = true:=by
 intro u hu
 obtain ⟨j,hj⟩:=List.getElem?_of_mem hu
 have hjl:j < cs.length:=by rw [←h.1];exact (List.getElem?_eq_some_iff.1 hj).1
 exact ((h.2 j cs[j] u (by simp [hjl]) hj).one (List.all_eq_true.1 ho _ (by simp))).1
theorem pcells_sound {Φ:Imm} {μ:Nat→Option Nat} {p:PV} {v:Value} (h:Rep Φ μ p v) {cs:List PV} (hc:pcells p=some cs):CellsR Φ μ cs v.cells.toList:=by
 unfold pcells at hc
 split at hc
 ·rename_i ds
  split at hc
  ·rename_i ho
   cases hc
   obtain ⟨us,rfl,hr⟩:=h.agg_inv
   refine ⟨by simpa [Value.cells] using repL_bare hr,by simpa [Value.cells] using repL_one hr ho,fun c hcm=>?_⟩
   obtain ⟨c',-,rfl⟩:=List.mem_map.1 hcm
   exact PV.bare_own _
  ·cases hc
 ·split at hc
  ·rename_i ho
   cases hc
   obtain ⟨h1,h2⟩:=h.one ho
   rw [h2]
   refine ⟨RepL.cons h.bare RepL.nil,by simpa using h1,by simpa using PV.bare_own _⟩
  ·cases hc
theorem repL_splice {Φ:Imm} {μ:Nat→Option Nat} {cs new:List PV} {us vs:List Value} {off:Nat} (h:CellsR Φ μ cs us) (hn:CellsR Φ μ new vs) (hle:off+new.length≤cs.length):CellsR Φ μ (splice cs off new) (us.take off ++ vs ++ us.drop (off+vs.length)):=by
 have hl:=h.1.1
 have hl2:=hn.1.1
 refine ⟨⟨?_,fun j c u h1 h2=>?_⟩,fun u hu=>?_,fun c hc=>?_⟩
 ·simp only [splice,List.length_append,List.length_take,List.length_drop];omega
 ·unfold splice at h1
  by_cases h3:j < off
  ·rw [List.append_assoc,List.getElem?_append_left (by rw [List.length_take];omega),List.getElem?_take,if_pos h3] at h1 h2
   exact h.1.2 j c u h1 h2
  ·by_cases h4:j < off+new.length
   ·rw [List.append_assoc,List.getElem?_append_right (by rw [List.length_take];omega),List.length_take,List.getElem?_append_left (by omega)] at h1 h2
    rw [show min off cs.length=off by omega] at h1
    rw [show min off us.length=off by omega] at h2
    exact hn.1.2 _ c u h1 h2
   ·rw [List.getElem?_append_right (by rw [List.length_append,List.length_take];omega),List.length_append,List.length_take,List.getElem?_drop] at h1 h2
    rw [show off+new.length+(j - (min off cs.length+new.length))=j by omega] at h1
    rw [show off+vs.length+(j - (min off us.length+vs.length))=j by omega] at h2
    exact h.1.2 j c u h1 h2
 ·simp only [List.mem_append] at hu
  rcases hu with (hu|hu)|hu
  ·exact h.2.1 u (List.mem_of_mem_take hu)
  ·exact hn.2.1 u hu
  ·exact h.2.1 u (List.mem_of_mem_drop hu)
 ·simp only [splice,List.mem_append] at hc
  rcases hc with (hc|hc)|hc
  ·exact h.2.2 c (List.mem_of_mem_take hc)
  ·exact hn.2.2 c hc
  ·exact h.2.2 c (List.mem_of_mem_drop hc)
theorem fold_set (off:Nat):∀(vs:List Value) (k:Nat) (cs:Array Value),off+k+vs.length≤cs.size →
  ((vs.zipIdx k).foldl (fun cs (x:Value×Nat)=>cs.setIfInBounds (off+x.2) x.1) cs).toList=cs.toList.take (off+k) ++ vs ++ cs.toList.drop (off+k+vs.length)
 | [],k,cs,h=>by simp
 |v :: vs,k,cs,h=>by
  simp only [List.length_cons] at h
  rw [List.zipIdx_cons,List.foldl_cons,fold_set off vs (k+1) _ (by simp;omega)]
  simp only [Array.toList_setIfInBounds]
  have hk:off+k < cs.toList.length:=by simp;omega
  rw [show off+(k+1)=off+k+1 by omega]
  rw [List.take_add_one,List.take_set_of_le (by omega),List.getElem?_set_self (by simpa using hk)]
  rw [List.drop_set_of_lt (by omega)]
  simp only [Option.toList_some,List.append_assoc,List.cons_append,List.nil_append,List.length_cons]
  rw [show off+k+1+vs.length=off+k+(vs.length+1) by omega]
theorem fill_sound {Φ:Imm} {μ:Nat→Option Nat} (place:Nat→Option (Nat×Nat)):∀(ps:List (Nat×PV)) (vs:List (Nat×Value)) (cs:List PV) (cur:Array Value) (out:List PV),CellsR Φ μ cs cur.toList →
  vs.length=ps.length→(∀(j:Nat) i p i' v,ps[j]? = some (i,p)→vs[j]? = some (i',v)→i' = i∧Rep Φ μ p v)→pfill place cs ps=some out→∃cur',Instr.fill place cur vs=some cur'∧CellsR Φ μ out cur'.toList
 | [],vs,cs,cur,out,hc,hl,_,h=>by
  obtain rfl:vs = []:=List.eq_nil_of_length_eq_zero (by simpa using hl)
  simp [pfill] at h;subst h
  exact ⟨cur,rfl,hc⟩
 |(i,p) :: ps,[],cs,cur,out,hc,hl,_,h=>by simp at hl
 |(i,p) :: ps,(i',v) :: vs,cs,cur,out,hc,hl,hr,h=>by
  obtain ⟨rfl,hpv⟩:=hr 0 i p i' v rfl rfl
  simp only [pfill] at h
  split at h
  ·rename_i off size new hpl hnew
   split at h
   ·rename_i hcond
    have hn:=pcells_sound hpv hnew
    have hlen:=hn.1.1
    have hl0:=hc.1.1
    simp only [Array.length_toList] at hlen hl0
    have hsp:=repL_splice hc hn (off:=off) (by omega)
    rw [splF_eq cs off new (by omega)] at h
    obtain ⟨cur',r1,r2⟩:=fill_sound place ps vs (splice cs off new) (v.cells.zipIdx.foldl (fun cs (x:Value×Nat)=>cs.setIfInBounds (off+x.2) x.1) cur) out (by
     have:=fold_set off v.cells.toList 0 cur (by simp;omega)
     rw [Nat.add_zero] at this
     rw [←Array.foldl_toList,Array.toList_zipIdx,this];exact hsp) (by simpa using hl) (fun j a b c d e1 e2=>hr (j+1) a b c d (by simpa using e1) (by simpa using e2)) h
    refine ⟨cur',?_,r2⟩
    rw [Instr.fill,hpl]
    simp only
    rw [if_neg (by simp;omega)]
    exact r1
   ·cases h
  ·cases h
end
section
theorem getGo_cut:∀(z j k:Nat) (acc:Int),j < (leb z).length→(getGo ((leb z).take j) k acc).2.2≠0:=by
 intro z
 induction z using Nat.strongRecOn with
 |_ z ih=>
  intro j k acc hj
  cases j with
  |zero=>rw [List.take_zero,getGo];decide
  |succ j=>
   by_cases h:z < 128
   ·rw [leb_small z h] at hj
    simp at hj
   ·rw [leb_big z (by omega)] at hj ⊢
    rw [List.take_succ_cons,getGo]
    split
    ·decide
    ·rw [if_neg (by omega)]
     exact ih (z / 128) (by omega) j _ _ (by simpa using hj)
theorem getS_cut (s:ByteArray) (hs:s.size≤1000000) (k:Nat) (hk:k < (strB s).length):(getS ((strB s).take k)).2.2≠0:=by
 have hL:(lenL ((strB s).take k) 1).2.2≠0:=by
  unfold lenL
  by_cases h:k < (intB s.size).length
  ·have e:(strB s).take k=(leb (zig s.size)).take k:=by
    rw [strB,List.take_append_of_le_length (by omega)];rfl
   have:(getI ((leb (zig s.size)).take k)).2.2≠0:=getGo_cut (zig s.size) k 0 0 h
   rw [e,if_pos this]
   exact this
  ·have e:(strB s).take k=intB s.size ++ (bytesL s).take (k - (intB s.size).length):=by
    rw [strB,List.take_append,List.take_of_length_le (by omega)]
   have h0:=getI_intB s.size ((bytesL s).take (k - (intB s.size).length)) (by omega) (by omega)
   rw [e,h0]
   simp only [ne_eq,not_true_eq_false,if_false]
   rw [if_neg (by omega),if_pos (by
    rw [strB,List.length_append,bytesL_len] at hk
    rw [List.length_append,List.length_take,bytesL_len,Int.ediv_one]
    omega)]
   decide
 unfold getS
 rw [if_pos hL]
 exact hL
def readM (hf:ByteArray→List Int) (b:List Int):Option PMan:=
 if b.length < 16 then none
 else if (getS (b.drop 16)).2.2≠0 then none
 else if hf (getS (b.drop 16)).1≠b.take 16 then none
 else decM (bytesL (getS (b.drop 16)).1)
def slotM (hf:ByteArray→List Int) (m:PMan):List Int:=hf (strOf (encM m)) ++ strB (strOf (encM m))
theorem encM_byte {m:PMan} : ∀c∈encM m,0≤c∧c < 256:=by
 have hl:∀n:Int,∀c∈intB n,0≤c∧c < 256:=fun n=>by
  have:∀z:Nat,∀c∈leb z,0≤c∧c < 256:=by
   intro z
   induction z using Nat.strongRecOn with
   |_ z ih=>
    intro c hc
    by_cases h:z < 128
    ·rw [leb_small z h] at hc
     simp only [List.mem_cons,List.not_mem_nil,or_false] at hc
     omega
    ·rw [leb_big z (by omega)] at hc
     rcases List.mem_cons.1 hc with rfl|hc
     ·omega
     ·exact ih (z / 128) (by omega) c hc
  exact this _
 intro c hc
 unfold encM intsB strsB at hc
 simp only [List.mem_append,List.mem_flatten,List.mem_map] at hc
 rcases hc with (hc|⟨l,⟨n,-,rfl⟩,hc⟩)|(hc|⟨l,⟨n,-,rfl⟩,hc⟩)|(hc|⟨l,⟨s,-,rfl⟩,hc⟩)
 ·exact hl _ c hc
 ·exact hl _ c hc
 ·exact hl _ c hc
 ·exact hl _ c hc
 ·exact hl _ c hc
 ·rw [strB] at hc
  rcases List.mem_append.1 hc with hc|hc
  ·exact hl _ c hc
  ·exact bytesL_byte s c hc
theorem readM_whole {hf:ByteArray→List Int} (h16:∀s,(hf s).length=16) {m:PMan} (hc:checkM 1 2 m=0) (hd:DigsOK m) (rest:List Int):readM hf (slotM hf m ++ rest)=some m:=by
 have h2:=(encM_len hc hd).2
 have h3:=(checkM_ok (by decide) (by decide) hc).2.1
 have e1:slotM hf m ++ rest=hf (strOf (encM m)) ++ (strB (strOf (encM m)) ++ rest):=by rw [slotM,List.append_assoc]
 have e2:=getS_strB (strOf (encM m)) rest (by rw [strOf_size];omega)
 unfold readM
 rw [e1,if_neg (by rw [List.length_append,h16];omega),List.drop_left' (h16 _),List.take_left' (h16 _),e2]
 simp only [ne_eq,not_true_eq_false,if_false]
 rw [bytesL_strOf _ encM_byte,decM_enc hc hd]
theorem readM_cut {hf:ByteArray→List Int} (h16:∀s,(hf s).length=16) {m:PMan} (hc:checkM 1 2 m=0) (hd:DigsOK m) (k:Nat) (hk:k < (slotM hf m).length):readM hf ((slotM hf m).take k)=none:=by
 have h2:=(encM_len hc hd).2
 have h3:=(checkM_ok (by decide) (by decide) hc).2.1
 unfold readM
 by_cases h:k < 16
 ·rw [if_pos (by rw [List.length_take];omega)]
 ·rw [if_neg (by rw [List.length_take];omega)]
  have e:((slotM hf m).take k).drop 16=(strB (strOf (encM m))).take (k - 16):=by
   rw [slotM,List.take_append,List.take_of_length_le (by rw [h16];omega),List.drop_left' (h16 _),h16]
  have hl:(slotM hf m).length=16+(strB (strOf (encM m))).length:=by rw [slotM,List.length_append,h16]
  rw [e,if_pos (getS_cut _ (by rw [strOf_size];omega) _ (by omega))]
theorem readM_zeros {hf:ByteArray→List Int} (b:List Int) (hz:∀c∈b.take 17,c=0) (hl:b.length=0∨17≤b.length):readM hf b=none:=by
 unfold readM
 rcases hl with hl|hl
 ·rw [if_pos (by omega)]
 ·rw [if_neg (by omega)]
  have hg:b[16]? = some 0:=by
   have h1:b[16]? = (b.take 17)[16]?:=by rw [List.getElem?_take_of_lt (by omega)]
   have h2:(b.take 17)[16]? = some ((b.take 17)[16]'(by rw [List.length_take];omega)):=List.getElem?_eq_getElem _
   rw [h1,h2,hz _ (List.getElem_mem _)]
  obtain ⟨hk,he⟩:=List.getElem?_eq_some_iff.1 hg
  have e:b.drop 16=0 :: b.drop 17:=by rw [List.drop_eq_getElem_cons hk,he]
  have hi:getI (0 :: b.drop 17)=(0,1,0):=by
   unfold getI
   rw [getGo,if_neg (by omega),if_pos (by decide)]
   rfl
  have hL:lenL (0 :: b.drop 17) 1=(0,1,0):=by
   unfold lenL
   rw [hi]
   simp only [ne_eq,not_true_eq_false,if_false]
   rw [if_neg (by omega),if_neg (by rw [Int.ediv_one,List.length_cons];omega)]
  have hS:getS (0 :: b.drop 17)=(strOf [],1,0):=by
   unfold getS
   rw [hL]
   rfl
  rw [e,hS]
  simp only [ne_eq,not_true_eq_false,if_false]
  split
  ·rfl
  ·have:bytesL (strOf []) = []:=bytesL_strOf [] (by simp)
   rw [this]
   rfl
def upTo (c:Nat→Option (List Int)):Nat→Nat→List Int
 |_,0 => []
 |a,n+1=>match c a with
  |none => []
  |some b=>b ++ upTo c (a+1) n
def allOf (W:Nat→List Int):Nat→Nat→List Int
 |_,0 => []
 |a,n+1=>W a ++ allOf W (a+1) n
theorem allOf_len {W:Nat→List Int} (hW:∀i,(W i).length=64):∀n a,(allOf W a n).length=64 * n
 |0,a=>rfl
 |n+1,a=>by
  rw [allOf,List.length_append,hW,allOf_len hW n]
  omega
theorem upTo_take {c:Nat→Option (List Int)} {W:Nat→List Int} (hW:∀i,(W i).length=64):∀n a,(∀i,a≤i→i < a+n→c i=none∨c i=some (W i))→∃k,k≤n∧upTo c a n=(allOf W a n).take (64 * k)∧(k < n→c (a+k)=none)
 |0,a,_=>⟨0,by omega,rfl,by omega⟩
 |n+1,a,h=>by
  rcases h a (by omega) (by omega) with h0|h0
  ·exact ⟨0,by omega,by rw [upTo,h0];simp,fun _=>h0⟩
  ·obtain ⟨k,k1,k2,k3⟩:=upTo_take hW n (a+1) (fun i h1 h2=>h i (by omega) (by omega))
   refine ⟨k+1,by omega,?_,fun hk=>?_⟩
   ·rw [upTo,h0,allOf,List.take_append,List.take_of_length_le (by rw [hW];omega),hW]
    simp only
    rw [k2,show 64 * (k+1) - 64=64 * k by omega]
   ·have:=k3 (by omega)
    rwa [show a+1+k=a+(k+1) by omega] at this
theorem slot_reads {hf:ByteArray→List Int} (h16:∀s,(hf s).length=16) {m:PMan} (hc:checkM 1 2 m=0) (hd:DigsOK m) {c:Nat→Option (List Int)} {W:Nat→List Int} (hW:∀i,(W i).length=64) {a n:Nat} (h:∀i,a≤i→i < a+n→c i=none∨c i=some (W i)) {rest:List Int} (hs:allOf W a n=slotM hf m ++ rest) :
  (readM hf (upTo c a n)=none∨readM hf (upTo c a n)=some m)∧((∀i,i < n→64 * i < (slotM hf m).length→c (a+i)≠none)→readM hf (upTo c a n)=some m):=by
 obtain ⟨k,k1,k2,k3⟩:=upTo_take hW n a h
 rw [k2,hs]
 by_cases hk:64 * k < (slotM hf m).length
 ·have e:(slotM hf m ++ rest).take (64 * k)=(slotM hf m).take (64 * k):=List.take_append_of_le_length (by omega)
  rw [e]
  refine ⟨.inl (readM_cut h16 hc hd _ hk),fun h=>?_⟩
  have hl:=allOf_len hW n a
  rw [hs,List.length_append] at hl
  exact absurd (k3 (by omega)) (h k (by omega) hk)
 ·have e:(slotM hf m ++ rest).take (64 * k)=slotM hf m ++ rest.take (64 * k - (slotM hf m).length):=by
   rw [List.take_append,List.take_of_length_le (by omega)]
  rw [e]
  exact ⟨.inr (readM_whole h16 hc hd _),fun _=>readM_whole h16 hc hd _⟩
theorem slot_zeros {hf:ByteArray→List Int} {c:Nat→Option (List Int)} {W:Nat→List Int} (hW:∀i,(W i).length=64) {a n:Nat} (h:∀i,a≤i→i < a+n→c i=none∨c i=some (W i)) (h0:∀x∈W a,x=0):readM hf (upTo c a n)=none:=by
 obtain ⟨k,k1,k2,-⟩:=upTo_take hW n a h
 rw [k2]
 have hl:=allOf_len hW n a
 refine readM_zeros _ (fun x hx=>?_) (by rw [List.length_take];omega)
 cases n with
 |zero=>simp [allOf] at hx
 |succ n=>
  rw [allOf,List.take_take] at hx
  have h1:((W a ++ allOf W (a+1) n).take (min 17 (64 * k)))=(W a).take (min 17 (64 * k)):=List.take_append_of_le_length (by rw [hW];omega)
  rw [h1] at hx
  exact h0 x (List.mem_of_mem_take hx)
def blk (S:List Int) (i:Nat):List Int:=(S.drop (64 * i)).take 64 ++ List.replicate (64 - ((S.drop (64 * i)).take 64).length) 0
theorem blk_len (S:List Int) (i:Nat):(blk S i).length=64:=by
 unfold blk
 rw [List.length_append,List.length_replicate]
 have:((S.drop (64 * i)).take 64).length≤64:=by rw [List.length_take];omega
 omega
theorem blk_succ (S:List Int) (i:Nat):blk S (i+1)=blk (S.drop 64) i:=by
 unfold blk
 rw [List.drop_drop,show 64 * (i+1)=64+64 * i by omega]
theorem allOf_blk {W:Nat→List Int} : ∀(n a:Nat) (S:List Int),S.length≤64 * n→(∀i,64 * i < S.length→W (a+i)=blk S i)→∃rest,allOf W a n=S ++ rest
 |0,a,S,hl,_=>⟨[],by
  have:S = []:=List.eq_nil_of_length_eq_zero (by omega)
  rw [this];rfl⟩
 |n+1,a,S,hl,h=>by
  by_cases h0:S.length=0
  ·have:S = []:=List.eq_nil_of_length_eq_zero h0
   exact ⟨allOf W a (n+1),by rw [this];rfl⟩
  ·have hW:=h 0 (by omega)
   rw [Nat.add_zero] at hW
   by_cases h1:S.length≤64
   ·refine ⟨List.replicate (64 - S.length) 0 ++ allOf W (a+1) n,?_⟩
    rw [allOf,hW]
    unfold blk
    rw [Nat.mul_zero,List.drop_zero,List.take_of_length_le h1,List.append_assoc]
   ·obtain ⟨rest,hr⟩:=allOf_blk n (a+1) (S.drop 64) (by rw [List.length_drop];omega) (fun i hi=>by
     rw [List.length_drop] at hi
     have:=h (i+1) (by omega)
     rw [blk_succ] at this
     rw [←this,show a+1+i=a+(i+1) by omega])
    refine ⟨rest,?_⟩
    rw [allOf,hW,hr]
    unfold blk
    have hl2:(S.take 64).length=64:=by rw [List.length_take];omega
    rw [Nat.mul_zero,List.drop_zero,hl2,Nat.sub_self,List.replicate_zero,List.append_nil,←List.append_assoc,List.take_append_drop]
end
end Go.Proofs.YtmeekbjhpidcgaaDoor
