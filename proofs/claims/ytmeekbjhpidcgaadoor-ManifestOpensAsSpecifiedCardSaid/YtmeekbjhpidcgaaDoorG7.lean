/- Out of: PwF. -/
import Derived.Test.YtmeekbjhpidcgaaDoorG5
namespace Go.Proofs.YtmeekbjhpidcgaaDoor
set_option linter.unusedSimpArgs false
set_option linter.unusedVariables false
set_option linter.unnecessarySimpa false
section
open Go.RowKit
abbrev Tab:=List (Option TyI)
def Tab.at (T:Tab) (t:TypeId):Option TyI:=(T[t]?).getD none
theorem tab_at {P:Program} {T:Tab} (hT:T=tabOf P) {t:TypeId} {x:TyI} (h:T.at t=some x):tyI P t=some x:=by
 refine tyTab_get hT ?_
 unfold Tab.at at h
 cases hx:T[t]? with
 |none=>rw [hx] at h;cases h
 |some y=>rw [hx] at h;simp at h;rw [h]
def pfieldOf (td:TD) (f:Nat):PV→Option PV
 | .agg cs=>match td with
  | .struct l=>match l[f]? with
   |some (off,size,agg)=>asVal agg size cs off
   |none=>none
  |_=>none
 |_=>none
def pindexV (td:TD):PV→PV→Option PV
 | .val (.string s), .val (.int _ i)=>match td with
  | .str=>if 0≤i then (match s[i.toNat]? with|some b=>some (.val (.int .u8 b.toNat))|none=>none) else none
  |_=>none
 | .agg cs, .val (.int _ i)=>match td with
  | .arr n _ k ag=>if 0≤i∧i < n then asVal ag k cs (i.toNat * k) else none
  |_=>none
 |_,_=>none
def pconv (src dst:TD):PV→Option PV
 | .val (.int _ n)=>match dst with
  | .int k=>some (.val (.int k (k.wrap n)))
  |_=>none
 | .val (.string s)=>match src,dst with
  | .str, .str=>some (.val (.string s))
  |_,_=>none
 |_=>none
def bytesOf:List PV→Option (List Int)
 | []=>some []
 | .val (.int .u8 b) :: r=>(bytesOf r).map (b :: ·)
 |_=>none
def strI (bs:List Int):ByteArray:=bs.foldl (fun r n=>r.push (UInt8.ofNat n.toNat)) ByteArray.empty
theorem bytesOf_get:∀(cs:List PV) (bs:List Int),bytesOf cs=some bs→cs=bs.map fun b=>.val (.int .u8 b)
 | [],bs,h=>by simp [bytesOf] at h;subst h;rfl
 |c :: cs,bs,h=>by
  cases c with
  |val v=>cases v with
   |int k b=>cases k with
    |u8=>
     simp only [bytesOf] at h
     obtain ⟨l,hl,rfl⟩:=Option.map_eq_some_iff.1 h
     rw [bytesOf_get cs l hl];rfl
    |_=>simp [bytesOf] at h
   |_=>simp [bytesOf] at h
  |_=>simp [bytesOf] at h
theorem bytesOf_map:∀(bs:List Int),bytesOf (bs.map fun b=>.val (.int .u8 b))=some bs
 | []=>rfl
 |b :: bs=>by simp [bytesOf,bytesOf_map bs]
def pconvS (T:Tab) (src dst:TD):PV→Option PV
 | .sl _ k cs _=>match src,dst with
  | .slice e _ _ _, .str=>match T.at e with
   |some ei=>match ei.kind with
    | .int .u8=>if k=1 then (bytesOf cs).map fun bs=>.val (.string (strI bs)) else none
    |_=>none
   |none=>none
  |_,_=>none
 |_=>none
def plen (td:TD):PV→Option PV
 | .msl _ _ n _=>match td with
  | .slice .. => some (.val (.int .i64 n))
  |_=>none
 | .sl n _ _ _=>match td with
  | .slice .. => some (.val (.int .i64 n))
  |_=>none
 | .nilsl=>match td with
  | .slice .. => some (.val (.int .i64 0))
  |_=>none
 | .val (.string s)=>match td with
  | .str=>some (.val (.int .i64 s.size))
  |_=>none
 |_=>match td with
  | .arr n _ _ _=>some (.val (.int .i64 n))
  |_=>none
def pbuild (T:Tab) (ti:TyI) (ps:List (Nat×PV)):Option PV:=
 match ti.kind with
 | .struct l=>(pfill (fun i=>(l[i]?).map fun x=>(x.1,x.2.1)) ti.zero ps).map .agg
 | .arr _ _ k _=>(pfill (fun i=>some (i * k,k)) ti.zero ps).map .agg
 |_=>none
def veq:SK→Value→Value→Option Bool
 | .int, .int k a, .int k' b=>if k=k' then some (a == b) else none
 | .str, .string a, .string b=>some (a == b)
 | .bool, .bool a, .bool b=>some (a == b)
 |_,_,_=>none
def peqs:List SK→List PV→List PV→Option Bool
 | [],[],[]=>some true
 |k :: ks, .val a :: xs, .val b :: ys=>match veq k a b,peqs ks xs ys with
  |some r,some s=>some (r && s)
  |_,_=>none
 |_,_,_=>none
def pbinA (op:BinOp) (ks:List SK) (xs ys:List PV):Option Value:=match ks with
 | []=>none
 |_ :: _=>match op with
  | .eql=>(peqs ks xs ys).map .bool
  | .neq=>(peqs ks xs ys).map fun b=>.bool !b
  |_=>none
def pval (T:Tab) (σ:PS):Op→Option PV
 | .move x=>some (pev σ x)
 | .pick c x y=>match pev σ c with
  | .val (.bool b)=>some (if b then pev σ x else pev σ y)
  |_=>none
 | .load t x=>match T.at t with
  |some ti=>ploadAt ti σ.b (pev σ x)
  |none=>none
 | .fieldAddr s x f=>match T.at s with
  |some ti=>match ti.kind with
   | .struct l=>pfield l f (pev σ x)
   |_=>none
  |none=>none
 | .field s x f=>match T.at s with
  |some ti=>pfieldOf ti.kind f (pev σ x)
  |none=>none
 | .indexAddr t x i=>match T.at t with
  |some ti=>pindexAt ti.kind (pev σ x) (pev σ i)
  |none=>none
 | .index t x i=>match T.at t with
  |some ti=>pindexV ti.kind (pev σ x) (pev σ i)
  |none=>none
 | .binOp op t x y _=>match pev σ x,pev σ y with
  | .val u, .val v=>match pbin op u v with
   |some r=>some (.val r)
   |none=>match T.at t with
    |some ti=>(pbinB op ti.kind u v).map .val
    |none=>none
  | .agg xs, .agg ys=>match T.at t with
   |some ti=>(pbinA op ti.eqs xs ys).map .val
   |none=>none
  |_,_=>none
 | .unOp op _ x=>match pev σ x with
  | .val u=>(pun op u).map .val
  |_=>none
 | .convert s d x=>match T.at s,T.at d with
  |some si,some di=>match pconv si.kind di.kind (pev σ x) with
   |some p=>some p
   |none=>pconvS T si.kind di.kind (pev σ x)
  |_,_=>none
 | .slice t x lo hi mx=>match mx with
  |none=>match T.at t with
   |some ti=>pslice ti.kind (pev σ x) (lo.map (pev σ)) (hi.map (pev σ))
   |none=>none
  |some _=>none
 | .extract x i=>match pev σ x with
  | .tup vs=>(vs[i]?).map PV.bare
  |_=>none
 | .makeFunc fn first caps=>match fn with
  | .func f=>if Nat.blt f 1000000 then (if first.toList.isEmpty then some (.fn f (caps.toList.map (pev σ))) else if caps.toList.isEmpty then some (.fn (f+1000000) (first.toList.map (pev σ))) else none) else none
  |_=>none
 | .build t parts=>match T.at t with
  |some ti=>pbuild T ti (parts.toList.map fun x=>(x.1,pev σ x.2))
  |none=>none
 | .call c=>match c.callee with
  | .builtin .len=>match c.args.toList,c.argTypes.toList with
   | [x],[t]=>match T.at t with
    |some ti=>plen ti.kind (pev σ x)
    |none=>none
   |_,_=>none
  |_=>none
 |_=>none
end
section
open Go.RowKit
variable {Φ0:Ent} {W:World} {M:Nat} {Φ:Imm} {μ:Nat→Option Nat} {ω:Nat→Option Who} {σ:PS} {a:Act} {w:World} {P:Program} {T:Tab}
theorem run_mapM_list {α β:Type} (f:α→Sem β):∀(l:List α) (r:List β),r.length=l.length→(∀(j:Nat) x y,l[j]? = some x→r[j]? = some y→(f x).run P w = .ok y w)→(l.mapM f).run P w = .ok r w
 | [],r,hl,_=>by
  obtain rfl:r = []:=List.eq_nil_of_length_eq_zero (by simpa using hl)
  simp
 |x :: l,[],hl,_=>by simp at hl
 |x :: l,y :: r,hl,h=>by
  rw [List.mapM_cons]
  simp only [Sem.run_bind,h 0 x y rfl rfl,Result.andThen_ok,run_mapM_list f l r (by simpa using hl) (fun j a b h1 h2=>h (j+1) a b (by simpa using h1) (by simpa using h2)),Sem.run_pure]
theorem asVal_part {cs:List PV} {us:List Value} (hr:RepL Φ μ cs us) {t:TypeId} {i:TypeInfo} {d:TypeDesc} (h1:P.info? t=some i) (h2:P.underlying t=some d) {off:Nat} {p:PV} (hp:asVal (aggD d) i.size cs off=some p) :
  ∃v,(part t us.toArray off).run P w = .ok v w∧Rep Φ μ p v∧p.ownB=false:=by
 unfold asVal at hp
 unfold part
 simp only [Sem.run_bind,run_isAgg h2,Result.andThen_ok]
 split at hp
 ·rename_i hagg
  split at hp
  ·rename_i hle
   cases hp
   simp only [hagg,if_true,Sem.run_bind,run_size h1,Result.andThen_ok,Sem.run_pure]
   refine ⟨_,rfl,?_,rfl⟩
   have e:us.toArray.extract off (off+i.size)=((us.drop off).take i.size).toArray:=by
    simp [List.extract_toArray,List.extract_eq_take_drop]
   rw [e]
   refine RepL.agg (repL_bare ?_)
   refine ⟨by simp [hr.1],fun j c u h3 h4=>?_⟩
   rw [List.getElem?_take] at h3 h4
   split at h3
   ·rename_i hj
    rw [if_pos hj] at h4
    rw [List.getElem?_drop] at h3 h4
    exact hr.2 _ c u h3 h4
   ·cases h3
  ·cases hp
 ·rename_i hagg
  obtain ⟨c,hc,rfl⟩:=Option.map_eq_some_iff.1 hp
  have hagg' : aggD d=false:=by simpa using hagg
  obtain ⟨u,hu,hru⟩:=hr.get hc
  refine ⟨u,?_,hru.bare,PV.bare_own _⟩
  simp [hagg',hu]
theorem run_forIn_eq {α:Type} (body:α→Option Bool×Unit→Sem (ForInStep (Option Bool×Unit))) (c:α→Bool):∀(l:List α),(∀x∈l,∀s,(body x s).run P w = .ok (if c x then .yield (none,()) else .done (some false,())) w) →
  (forIn l ((none,()):Option Bool×Unit) body).run P w = .ok (if l.all c then (none,()) else (some false,())) w
 | [],_=>by simp
 |x :: l,h=>by
  rw [List.forIn_cons,Sem.run_bind,h x (by simp)]
  by_cases hc:c x=true
  ·simp only [hc,if_true,Result.andThen_ok,List.all_cons,Bool.true_and]
   exact run_forIn_eq body c l (fun y hy=>h y (by simp [hy]))
  ·have hc' : c x=false:=by simpa using hc
   simp [hc']
theorem run_veq {k:SK} {t:TypeId} (hk:skOf P t=some k) {a b:Value} {r:Bool} (h:veq k a b=some r) (d:Nat):(Op.equalIn (d+1) t a b).run P w = .ok r w:=by
 rw [Op.equalIn]
 unfold skOf at hk
 split at hk
 ·rename_i kk i hu hi
  split at hk
  ·cases hk
   unfold veq at h
   split at h
   ·rename_i k1 a k2 b e
    split at h
    ·rename_i hkk
     subst hkk
     cases h
     simp [run_underlying hu]
    ·cases h
   ·rename_i e;cases e
   ·rename_i e;cases e
   ·cases h
  ·cases hk
 ·rename_i i hu hi
  split at hk
  ·cases hk
   unfold veq at h
   split at h
   ·rename_i e;cases e
   ·rename_i e;cases e
   ·cases h;simp [run_underlying hu]
   ·cases h
  ·cases hk
 ·rename_i i hu hi
  split at hk
  ·cases hk
   unfold veq at h
   split at h
   ·rename_i e;cases e
   ·cases h;simp [run_underlying hu]
   ·rename_i e;cases e
   ·cases h
  ·cases hk
 ·cases hk
theorem peqs_get : ∀ (ks : List SK) (xs ys : List PV) (r : Bool), peqs ks xs ys = some r → xs.length = ks.length ∧ ys.length = ks.length ∧ ∃ cs : List Bool, cs.length = ks.length ∧ r = cs.all id ∧ ∀ (j : Nat) k, ks[j]? = some k → ∃ a b c, xs[j]? = some (.val a) ∧ ys[j]? = some (.val b) ∧ cs[j]? = some c ∧ veq k a b = some c
  | [], [], [], r, h => by simp [peqs] at h; subst h; exact ⟨rfl, rfl, [], rfl, rfl, fun j k hj => by simp at hj⟩
  | k :: ks, .val a :: xs, .val b :: ys, r, h => by
    simp only [peqs] at h
    split at h
    · rename_i r1 r2 h1 h2
      cases h
      obtain ⟨l1, l2, cs, l3, rfl, hg⟩ := peqs_get ks xs ys r2 h2
      refine ⟨by simp [l1], by simp [l2], r1 :: cs, by simp [l3], by simp, fun j k' hj => ?_⟩
      cases j with
      | zero => simp at hj; subst hj; exact ⟨a, b, r1, rfl, rfl, rfl, h1⟩
      | succ j => simp at hj; simpa using hg j k' hj
    · cases h
  | [], _ :: _, _, r, h => by simp [peqs] at h
  | [], [], _ :: _, r, h => by simp [peqs] at h
  | _ :: _, [], _, r, h => by simp [peqs] at h
  | _ :: _, .val _ :: _, [], r, h => by simp [peqs] at h
  | _ :: _, p :: _, q :: _, r, h => by
    cases p with
    | val a => cases q with
      | val b => simp only [peqs] at h; split at h
                 · rename_i ks xs ys r1 r2 h1 h2
                   cases h
                   obtain ⟨l1, l2, cs, l3, rfl, hg⟩ := peqs_get _ _ _ r2 h2
                   refine ⟨by simp [l1], by simp [l2], r1 :: cs, by simp [l3], by simp, fun j k' hj => ?_⟩
                   cases j with
                   | zero => simp at hj; subst hj; exact ⟨a, b, r1, rfl, rfl, rfl, h1⟩
                   | succ j => simp at hj; simpa using hg j k' hj
                 · cases h
      | _ => simp [peqs] at h
    | _ => simp [peqs] at h
theorem peqs_app:∀(k1 k2:List SK) (xs ys:List PV) (r:Bool),peqs (k1 ++ k2) xs ys=some r→∃r1 r2,peqs k1 (xs.take k1.length) (ys.take k1.length)=some r1∧peqs k2 (xs.drop k1.length) (ys.drop k1.length)=some r2∧r=(r1 && r2)
 | [],k2,xs,ys,r,h=>⟨true,r,by simp [peqs],by simpa using h,by simp⟩
 |k :: k1,k2,xs,ys,r,h=>by
  rw [List.cons_append] at h
  obtain ⟨l1,l2,-⟩:=peqs_get _ _ _ _ h
  cases xs with
  |nil=>simp at l1
  |cons p xs=>
   cases ys with
   |nil=>simp at l2
   |cons q ys=>
    cases p with
    |val a=>cases q with
     |val b=>
      simp only [peqs] at h
      split at h
      ·rename_i ra rb h1 h2
       cases h
       obtain ⟨r1,r2,e1,e2,rfl⟩:=peqs_app k1 k2 xs ys rb h2
       refine ⟨ra && r1,r2,by simp [peqs,h1,e1],by simpa using e2,by rw [Bool.and_assoc]⟩
      ·cases h
     |_=>simp [peqs] at h
    |_=>simp [peqs] at h
theorem peqs_one {k:SK} {xs ys:List PV} {r:Bool} (h:peqs [k] xs ys=some r):∃a b,xs = [.val a]∧ys = [.val b]∧veq k a b=some r:=by
 obtain ⟨l1,l2,-⟩:=peqs_get _ _ _ _ h
 obtain ⟨p,rfl⟩:=List.length_eq_one_iff.1 l1
 obtain ⟨q,rfl⟩:=List.length_eq_one_iff.1 l2
 cases p with
 |val a=>cases q with
  |val b=>
   simp only [peqs] at h
   split at h
   ·rename_i ra rb h1 h2
    simp at h2
    subst h2
    simp at h
    subst h
    exact ⟨a,b,rfl,rfl,h1⟩
   ·cases h
  |_=>simp [peqs] at h
 |_=>simp [peqs] at h
def cellsVal (agg:Bool) (us:List Value):Value:=if agg then .agg us.toArray else us.headD undef
theorem part_run {t:TypeId} {i:TypeInfo} {d:TypeDesc} (h1:P.info? t=some i) (h2:P.underlying t=some d) {us:List Value} {off:Nat} (hle:off+i.size≤us.length) (hpos:aggD d=false→0 < i.size):(part t us.toArray off).run P w = .ok (cellsVal (aggD d) ((us.drop off).take i.size)) w:=by
 unfold part
 simp only [Sem.run_bind,run_isAgg h2,Result.andThen_ok]
 cases hd:aggD d with
 |true=>
  simp only [if_true,Sem.run_bind,run_size h1,Result.andThen_ok,Sem.run_pure,cellsVal]
  congr 2
  apply Array.ext'
  simp [List.take_drop,Nat.add_comm]
 |false=>
  have hp:=hpos hd
  simp only [Bool.false_eq_true,if_false,cellsVal]
  have hlt:off < us.length:=by omega
  rw [List.getElem?_toArray,List.getElem?_eq_getElem hlt]
  have:((us.drop off).take i.size).headD undef=us[off]:=by
   rw [List.headD_eq_head?_getD,List.head?_take,if_neg (by omega),List.head?_drop,List.getElem?_eq_getElem hlt];rfl
  rw [this];rfl
theorem repL_dt {xs:List PV} {us:List Value} (h:RepL Φ μ xs us) (off n:Nat):RepL Φ μ ((xs.drop off).take n) ((us.drop off).take n):=by
 refine ⟨by simp [h.1],fun j c u h1 h2=>?_⟩
 rw [List.getElem?_take] at h1 h2
 split at h1
 ·rename_i hj
  rw [if_pos hj,List.getElem?_drop] at h2
  rw [List.getElem?_drop] at h1
  exact h.2 _ c u h1 h2
 ·cases h1
def eqsFs (P:Program) (d n:Nat) (l:List Field):Option (Nat×List SK):=l.foldr (fun f acc=>match acc with
      |some (off,l)=>if f.name ≠ "_" then match eqsD P d f.type with
       |some m=>if f.offset+m.length=off then some (f.offset,m ++ l) else none
       |none=>none else none
      |none=>none) (some (n,[]))
theorem eqsFs_cons {d n:Nat} {f:Field} {l:List Field} {o:Nat} {ks:List SK} (h:eqsFs P d n (f :: l)=some (o,ks)):∃off ls m,eqsFs P d n l=some (off,ls)∧f.name ≠ "_"∧eqsD P d f.type=some m∧f.offset+m.length=off∧o=f.offset∧ks=m ++ ls:=by
 simp only [eqsFs,List.foldr_cons] at h
 split at h
 ·rename_i off ls hacc
  split at h
  ·rename_i hn
   split at h
   ·rename_i m hm
    split at h
    ·rename_i ho
     simp only [Option.some.injEq,Prod.mk.injEq] at h
     exact ⟨off,ls,m,hacc,hn,hm,ho,h.1.symm,h.2.symm⟩
    ·cases h
   ·cases h
  ·cases h
 ·cases h
theorem eqD_size:∀(d:Nat) (t:TypeId) (ks:List SK),eqsD P d t=some ks→∃i dd,P.info? t=some i∧P.underlying t=some dd∧i.size=ks.length∧(aggD dd=false→∃k,ks = [k]∧skOf P t=some k)
 |0,t,ks,h=>by simp [eqsD] at h
 |d+1,t,ks,h=>by
  simp only [eqsD] at h
  split at h
  ·rename_i k hk
   cases h
   have hk0:=hk
   unfold skOf at hk
   split at hk
   ·rename_i i hu hi
    split at hk
    ·rename_i h1;exact ⟨i,_,hi,hu,by simpa using h1,fun _=>⟨k,rfl,hk0⟩⟩
    ·cases hk
   ·rename_i i hu hi
    split at hk
    ·rename_i h1;exact ⟨i,_,hi,hu,by simpa using h1,fun _=>⟨k,rfl,hk0⟩⟩
    ·cases hk
   ·rename_i i hu hi
    split at hk
    ·rename_i h1;exact ⟨i,_,hi,hu,by simpa using h1,fun _=>⟨k,rfl,hk0⟩⟩
    ·cases hk
   ·cases hk
  ·split at h
   ·rename_i fs i hu hi
    split at h
    ·split at h
     ·split at h
      ·rename_i hl;cases h;exact ⟨i,_,hi,hu,hl.symm,fun e=>by cases e⟩
      ·cases h
     ·cases h
    ·cases h
   ·rename_i n e i hu hi
    split at h
    ·rename_i l ie hl hie
     split at h
     ·rename_i hc
      cases h
      exact ⟨i,_,hi,hu,by rw [hc.2,←hc.1];simp,fun e=>by cases e⟩
     ·cases h
    ·cases h
   ·cases h
theorem peqs_flat {l:List SK} : ∀(n:Nat) (xs ys:List PV) (r:Bool),peqs ((List.replicate n l).flatten) xs ys=some r→∃c:Nat→Bool,r=(List.range' 0 n).all c∧∀j,j < n→peqs l ((xs.drop (j * l.length)).take l.length) ((ys.drop (j * l.length)).take l.length)=some (c j):=by
 intro n
 induction n with
 |zero=>
  intro xs ys r h
  obtain ⟨l1,l2,-⟩:=peqs_get _ _ _ _ h
  simp at l1 l2
  subst l1 l2
  simp [peqs] at h
  exact ⟨fun _=>true,by simp [←h],fun j hj=>by omega⟩
 |succ n ih=>
  intro xs ys r h
  rw [List.replicate_succ,List.flatten_cons] at h
  obtain ⟨r1,r2,h1,h2,rfl⟩:=peqs_app _ _ _ _ _ h
  obtain ⟨c,rfl,hc⟩:=ih _ _ _ h2
  refine ⟨fun j=>if j=0 then r1 else c (j - 1),?_,fun j hj=>?_⟩
  ·rw [List.range'_succ,List.all_cons]
   simp only [if_true]
   congr 1
   rw [Bool.eq_iff_iff,List.all_eq_true,List.all_eq_true]
   constructor
   ·intro hh x hx
    rw [List.mem_range'_1] at hx
    rw [if_neg (by omega)]
    exact hh (x - 1) (by rw [List.mem_range'_1];omega)
   ·intro hh x hx
    rw [List.mem_range'_1] at hx
    have:=hh (x+1) (by rw [List.mem_range'_1];omega)
    rw [if_neg (by omega)] at this
    exact this
  ·cases j with
   |zero=>simpa using h1
   |succ j=>
    have:=hc j (by omega)
    rw [List.drop_drop,List.drop_drop] at this
    simp only [Nat.succ_ne_zero,if_false,Nat.add_sub_cancel]
    rw [Nat.succ_mul,Nat.add_comm]
    exact this
theorem eqD_sound:∀(d:Nat) (t:TypeId) (ks:List SK),eqsD P d t=some ks→∀(xs ys:List PV) (us vs:List Value) (r:Bool),peqs ks xs ys=some r→RepL Φ μ xs us→RepL Φ μ ys vs→∀dd,P.underlying t=some dd→∀n,d≤n →
  (Op.equalIn n t (cellsVal (aggD dd) us) (cellsVal (aggD dd) vs)).run P w = .ok r w
 |0,t,ks,h=>by simp [eqsD] at h
 |d+1,t,ks,h=>by
  intro xs ys us vs r hr hx hy dd hdd n hn
  obtain ⟨n,rfl⟩:∃m,n=m+1:=⟨n - 1,by omega⟩
  have hdn:d≤n:=by omega
  obtain ⟨i0,dd0,hi0,hu0,hs0,hsc⟩:=eqD_size _ _ _ h
  rw [hdd] at hu0;cases hu0
  cases hag:aggD dd with
  |false=>
   obtain ⟨k,rfl,hsk⟩:=hsc hag
   obtain ⟨a,b,rfl,rfl,hv⟩:=peqs_one hr
   obtain ⟨u,hu,hru⟩:=hx.get (j:=0) rfl
   obtain ⟨v,hv',hrv⟩:=hy.get (j:=0) rfl
   obtain ⟨rfl,-⟩:=hru.val_inv
   obtain ⟨rfl,-⟩:=hrv.val_inv
   have e1:us.headD undef=u:=by rw [List.headD_eq_head?_getD,List.head?_eq_getElem?,hu];rfl
   have e2:vs.headD undef=v:=by rw [List.headD_eq_head?_getD,List.head?_eq_getElem?,hv'];rfl
   simp only [cellsVal,Bool.false_eq_true,if_false,e1,e2]
   exact run_veq hsk hv n
  |true=>
   simp only [cellsVal,if_true]
   simp only [eqsD] at h
   split at h
   ·rename_i k hk
    exfalso
    unfold skOf at hk
    rw [hdd] at hk
    cases dd<;>simp_all [aggD]
   ·obtain ⟨lx,ly,-⟩:=peqs_get _ _ _ _ hr
    have lus:us.length=ks.length:=by rw [hx.1,lx]
    have lvs:vs.length=ks.length:=by rw [hy.1,ly]
    split at h
    ·rename_i fs i hu hi
     rw [hdd] at hu;cases hu
     split at h
     case isFalse=>cases h
     rename_i hst
     split at h
     case h_2=>cases h
     rename_i l hl
     split at h
     case isFalse=>cases h
     cases h
     rename_i hls
     have hfs:eqsFs P d i.size fs.toList=some (0,ks):=hl
     have hki:ks.length=i.size:=hls
     -- field by field
     have key:∀(l:List Field) (o:Nat) (kk:List SK) (s:Bool),eqsFs P d i.size l=some (o,kk)→peqs kk (xs.drop o) (ys.drop o)=some s→o+kk.length=i.size →
       ∃c:Field→Bool,s=l.all c∧∀f∈l,f.name ≠ "_"∧(∀m,d≤m→∃u v,(part f.type us.toArray f.offset).run P w = .ok u w∧(part f.type vs.toArray f.offset).run P w = .ok v w∧(Op.equalIn m f.type u v).run P w = .ok (c f) w):=by
      intro l
      induction l with
      |nil=>
       intro o kk s h1 h2 h3
       simp [eqsFs] at h1
       obtain ⟨rfl,rfl⟩:=h1
       obtain ⟨q1,q2,-⟩:=peqs_get _ _ _ _ h2
       have e1:xs.drop i.size = []:=List.eq_nil_of_length_eq_zero q1
       have e2:ys.drop i.size = []:=List.eq_nil_of_length_eq_zero q2
       rw [e1,e2] at h2
       simp [peqs] at h2
       exact ⟨fun _=>true,by simp [←h2],fun f hf=>by cases hf⟩
      |cons f l ih=>
       intro o kk s h1 h2 h3
       obtain ⟨off,ls,m,g1,g2,g3,g4,rfl,rfl⟩:=eqsFs_cons h1
       obtain ⟨s1,s2,p1,p2,rfl⟩:=peqs_app _ _ _ _ _ h2
       rw [List.drop_drop,List.drop_drop,g4] at p2
       have hlen3:off+ls.length=i.size:=by rw [List.length_append] at h3;omega
       obtain ⟨c,rfl,hc⟩:=ih off ls s2 g1 p2 hlen3
       -- the same answer wherever the same field stands
       obtain ⟨fi,fd,q1,q2,q3,q4⟩:=eqD_size d f.type m g3
       have hfit:f.offset+fi.size≤us.length∧f.offset+fi.size≤vs.length:=by rw [lus,lvs,hki];omega
       have hpos:aggD fd=false→0 < fi.size:=fun e=>by obtain ⟨k,rfl,-⟩:=q4 e;rw [q3];simp
       have main:∀mm,d≤mm→∃u v,(part f.type us.toArray f.offset).run P w = .ok u w∧(part f.type vs.toArray f.offset).run P w = .ok v w∧(Op.equalIn mm f.type u v).run P w = .ok s1 w:=by
        intro mm hmm
        refine ⟨_,_,part_run q1 q2 hfit.1 hpos,part_run q1 q2 hfit.2 hpos,?_⟩
        rw [q3]
        exact eqD_sound d f.type m g3 _ _ _ _ s1 p1 (repL_dt hx _ _) (repL_dt hy _ _) fd q2 mm hmm
       refine ⟨fun g=>if g.offset=f.offset∧g.type=f.type then s1 else c g,?_,fun g hg=>?_⟩
       ·rw [List.all_cons]
        simp only [and_self,if_true]
        congr 1
        rw [Bool.eq_iff_iff,List.all_eq_true,List.all_eq_true]
        have same:∀g∈l,g.offset=f.offset∧g.type=f.type→c g=s1:=by
         intro g hg ⟨e1,e2⟩
         obtain ⟨-,hg2⟩:=hc g hg
         obtain ⟨u,v,k1,k2,k3⟩:=hg2 d (Nat.le_refl _)
         obtain ⟨u',v',k4,k5,k6⟩:=main d (Nat.le_refl _)
         rw [e1,e2] at k1 k2
         rw [e2] at k3
         rw [k4] at k1;cases k1
         rw [k5] at k2;cases k2
         rw [k6] at k3;cases k3;rfl
        constructor
        ·intro hh g hg
         split
         ·rename_i e;rw [←same g hg e];exact hh g hg
         ·exact hh g hg
        ·intro hh g hg
         have:=hh g hg
         split at this
         ·rename_i e;rw [same g hg e];exact this
         ·exact this
       ·by_cases e:g.offset=f.offset∧g.type=f.type
        ·simp only [e,and_self,if_true]
         rcases List.mem_cons.1 hg with rfl|hg
         ·exact ⟨g2,main⟩
         ·exact ⟨(hc g hg).1,main⟩
        ·simp only [e,if_false]
         rcases List.mem_cons.1 hg with rfl|hg
         ·exact absurd ⟨rfl,rfl⟩ e
         ·exact hc g hg
     obtain ⟨c,rfl,hc⟩:=key fs.toList 0 ks r hfs (by simpa using hr) (by omega)
     rw [Op.equalIn]
     simp only [Sem.run_bind,run_underlying hdd,Result.andThen_ok,run_program,hst,Bool.false_eq_true,if_false]
     rw [←Array.forIn_toList,run_forIn_eq _ c fs.toList ?_]
     ·cases hca:fs.toList.all c<;>simp
     ·intro f hf s
      obtain ⟨hn1,hn2⟩:=hc f hf
      obtain ⟨u,v,k1,k2,k3⟩:=hn2 n hdn
      simp only [hn1,ne_eq,not_false_eq_true,if_true,Sem.run_bind,k1,k2,Result.andThen_ok,k3]
      cases c f<;>simp
    ·rename_i len e i hu hi
     rw [hdd] at hu;cases hu
     split at h
     case h_2=>cases h
     rename_i l ie hl hie
     split at h
     case isFalse=>cases h
     rename_i hcc
     cases h
     obtain ⟨c,rfl,hc⟩:=peqs_flat len xs ys r hr
     obtain ⟨fi,fd,q1,q2,q3,q4⟩:=eqD_size d e l hl
     rw [hie] at q1;cases q1
     rw [Op.equalIn]
     simp only [Sem.run_bind,run_underlying hdd,Result.andThen_ok,run_size hie]
     have hsz:Std.Legacy.Range.size [:len]=len:=by simp [Std.Legacy.Range.size]
     rw [Std.Legacy.Range.forIn_eq_forIn_range',run_forIn_eq _ c _ ?_]
     ·rw [hsz]
      cases hca:(List.range' 0 len).all c<;>simp_all
     ·intro j hj s
      have hjn:j < len:=by simp [Std.Legacy.Range.size] at hj;omega
      have hfl:(List.replicate len l).flatten.length=len * l.length:=by simp
      have hle:j * ie.size+ie.size≤len * l.length:=by
       rw [q3,←Nat.succ_mul];exact Nat.mul_le_mul_right _ hjn
      have hpos:aggD fd=false→0 < ie.size:=fun e=>by obtain ⟨k,rfl,-⟩:=q4 e;rw [q3];simp
      have k1:=part_run (w:=w) (us:=us) (off:=j * ie.size) hie q2 (by rw [lus,hfl];exact hle) hpos
      have k2:=part_run (w:=w) (us:=vs) (off:=j * ie.size) hie q2 (by rw [lvs,hfl];exact hle) hpos
      have hcj:=hc j hjn
      rw [←q3] at hcj
      have k3:=eqD_sound d e l hl _ _ _ _ (c j) hcj (repL_dt hx _ _) (repL_dt hy _ _) fd q2 n hdn
      simp only [Sem.run_bind,k1,k2,Result.andThen_ok,k3]
      cases c j<;>simp
    ·cases h
theorem agg_eq_sound {t:TypeId} {xs ys:List PV} {us vs:List Value} (hx:RepL Φ μ xs us) (hy:RepL Φ μ ys vs) {r:Bool} (hne:eqsOf P t ≠ []) (h:peqs (eqsOf P t) xs ys=some r):(Op.equal t (.agg us.toArray) (.agg vs.toArray)).run P w = .ok r w∧P.eqGuardType P.depth t=false:=by
 have heq:=hne
 unfold eqsOf at hne
 split at hne
 ·rename_i fs hu
  split at hne
  ·rename_i hc
   refine ⟨?_,hc⟩
   have he:eqsOf P t=(eqsD P 6 t).getD []:=by unfold eqsOf;rw [hu];simp only [hc,if_true]
   cases hm:eqsD P 6 t with
   |none=>rw [hm] at he;rw [he] at heq;exact absurd rfl heq
   |some ks=>
    rw [hm] at he
    rw [he] at h
    have:=eqD_sound (w:=w) 6 t ks hm xs ys us vs r h hx hy _ hu Op.maxDepth (by decide)
    exact this
  ·exact absurd rfl hne
 ·rename_i n e hu
  split at hne
  ·rename_i hc
   refine ⟨?_,hc⟩
   have he:eqsOf P t=(eqsD P 6 t).getD []:=by unfold eqsOf;rw [hu];simp only [hc,if_true]
   cases hm:eqsD P 6 t with
   |none=>rw [hm] at he;rw [he] at heq;exact absurd rfl heq
   |some ks=>
    rw [hm] at he
    rw [he] at h
    have:=eqD_sound (w:=w) 6 t ks hm xs ys us vs r h hx hy _ hu Op.maxDepth (by decide)
    exact this
  ·exact absurd rfl hne
 ·exact absurd rfl hne
theorem pval_sound (hT:T=tabOf P) (h:RelG Φ0 W M Φ μ ω σ a w) (o:Oper) {p:PV} (hp:pval T σ o.op=some p) :
  ∃v,(execOp a.eval o).run P w = .ok (.value v) w∧Rep Φ μ p v∧p.ownB=false:=by
 obtain ⟨dst,op,ty,pos,after,guard⟩:=o
 simp only at hp
 unfold pval at hp
 split at hp
 ·rename_i x
  cases hp
  exact ⟨a.eval x,by simp [execOp],h.ev x,pev_own σ x⟩
 ·rename_i c x y
  split at hp
  ·rename_i b hb
   cases hp
   have hc:=h.ev c
   rw [hb] at hc
   obtain ⟨hc,-⟩:=hc.val_inv
   cases b
   ·exact ⟨a.eval y,by simp [execOp,hc,asBool],h.ev y,pev_own σ y⟩
   ·exact ⟨a.eval x,by simp [execOp,hc,asBool],h.ev x,pev_own σ x⟩
  ·cases hp
 ·rename_i t x
  split at hp
  ·rename_i ti ht
   obtain ⟨u,r1,r2,r3⟩:=h.load (P:=P) (tab_at hT ht) (h.ev x) hp
   exact ⟨u,by simp [execOp,r1],r2,r3⟩
  ·cases hp
 ·rename_i s x f
  split at hp
  ·rename_i ti ht
   split at hp
   ·rename_i l hl
    obtain ⟨u,r1,r2,r3⟩:=field_sound (P:=P) (w:=w) (tab_at hT ht) hl (h.ev x) hp
    exact ⟨u,by simp [execOp,r1],r2,r3⟩
   ·cases hp
  ·cases hp
 ·rename_i s x f
  split at hp
  ·rename_i ti ht
   unfold pfieldOf at hp
   split at hp
   ·rename_i cs hcs
    split at hp
    ·rename_i l hl
     split at hp
     ·rename_i off size agg hlf
      obtain ⟨fs,hu,-,hget⟩:=struct_get (tab_at hT ht) hl
      obtain ⟨fd,i,d,e1,e2,e3,e4,e5,e6⟩:=hget f _ _ _ hlf
      have hx:=h.ev x
      rw [hcs] at hx
      obtain ⟨us,hv,hr⟩:=hx.agg_inv
      subst e4 e6
      obtain ⟨v,r1,r2,r3⟩:=asVal_part (P:=P) (w:=w) hr e3 e5 hp
      refine ⟨v,?_,r2,r3⟩
      simp [execOp,Instr.field,run_underlying hu,e1,hv,asAgg,e2,r1]
     ·cases hp
    ·cases hp
   ·cases hp
  ·cases hp
 ·rename_i t x i
  split at hp
  ·rename_i ti ht
   obtain ⟨u,r1,r2,r3⟩:=index_sound (P:=P) (w:=w) (tab_at hT ht) (h.ev x) (h.ev i) hp
   exact ⟨u,by simp [execOp,r1],r2,r3⟩
  ·cases hp
 ·rename_i t x i
  split at hp
  ·rename_i ti ht
   have hx:=h.ev x
   have hi:=h.ev i
   unfold pindexV at hp
   split at hp
   ·rename_i s ik n e1 e2
    rw [e1] at hx
    rw [e2] at hi
    obtain ⟨hx,-⟩:=hx.val_inv
    obtain ⟨hi,-⟩:=hi.val_inv
    split at hp
    ·rename_i hk
     split at hp
     ·rename_i h0
      split at hp
      ·rename_i b hb
       cases hp
       exact ⟨.int .u8 b.toNat,by simp [execOp,Instr.index,hx,hi,asIntOf,run_underlying (kind_str (tab_at hT ht) hk),h0,hb], .val _ rfl,rfl⟩
      ·cases hp
     ·cases hp
    ·cases hp
   ·rename_i cs ik n e1 e2
    rw [e1] at hx
    rw [e2] at hi
    obtain ⟨us,hv,hr⟩:=hx.agg_inv
    obtain ⟨hi,-⟩:=hi.val_inv
    split at hp
    ·rename_i len e k ag hk
     split at hp
     ·rename_i hc
      obtain ⟨hu,i',d',e3,e4,e5,e6⟩:=arr_get (tab_at hT ht) hk
      subst e4 e6
      obtain ⟨v,r1,r2,r3⟩:=asVal_part (P:=P) (w:=w) hr e3 e5 hp
      exact ⟨v,by simp [execOp,Instr.index,hv,hi,asIntOf,run_underlying hu,hc.1,hc.2,run_size e3,r1],r2,r3⟩
     ·cases hp
    ·cases hp
   ·cases hp
  ·cases hp
 ·rename_i op t x y yt
  split at hp
  ·rename_i u v e1 e2
   have hx:=h.ev x
   have hy:=h.ev y
   rw [e1] at hx
   rw [e2] at hy
   obtain ⟨hx,-⟩:=hx.val_inv
   obtain ⟨hy,-⟩:=hy.val_inv
   split at hp
   ·rename_i r hr
    cases hp
    obtain ⟨r1,r2⟩:=pbin_sound (P:=P) (w:=w) (t:=t) (x:=x) (y:=y) hr
    exact ⟨r,by simp only [execOp,Sem.run_bind,hx,hy] at r1 ⊢; rw [r1];rfl, .val _ r2,rfl⟩
   ·split at hp
    ·rename_i ti ht
     obtain ⟨r,hr,rfl⟩:=Option.map_eq_some_iff.1 hp
     obtain ⟨r1,r2⟩:=pbinB_sound (P:=P) (w:=w) (x:=x) (y:=y) (tab_at hT ht) hr
     exact ⟨r,by simp only [execOp,Sem.run_bind,hx,hy] at r1 ⊢; rw [r1];rfl, .val _ r2,rfl⟩
    ·cases hp
  ·rename_i xs ys e1 e2
   have hx:=h.ev x
   have hy:=h.ev y
   rw [e1] at hx
   rw [e2] at hy
   obtain ⟨us,hx,hxr⟩:=hx.agg_inv
   obtain ⟨vs,hy,hyr⟩:=hy.agg_inv
   split at hp
   ·rename_i ti ht
    obtain ⟨r,hr,rfl⟩:=Option.map_eq_some_iff.1 hp
    obtain ⟨i,d,z,-,-,-,-,-,g6⟩:=tyI_parts (tab_at hT ht)
    have heqs:ti.eqs=eqsOf P t:=by rw [g6]
    rw [heqs] at hr
    unfold pbinA at hr
    split at hr
    ·cases hr
    ·rename_i k ks hks
     have hne:eqsOf P t ≠ []:=by rw [hks];simp
     split at hr
     ·obtain ⟨b,hb,rfl⟩:=Option.map_eq_some_iff.1 hr
      obtain ⟨r1,r2⟩:=agg_eq_sound (w:=w) hxr hyr hne hb
      refine ⟨.bool b,?_, .val _ rfl,rfl⟩
      have hgd:(eqGuard .eql t x y (.agg us.toArray) (.agg vs.toArray)).run P w = .ok () w:=by simp [eqGuard,r2]
      simp only [execOp,Sem.run_bind,hx,hy,hgd,Result.andThen_ok,binOp,r1]
      rfl
     ·obtain ⟨b,hb,rfl⟩:=Option.map_eq_some_iff.1 hr
      obtain ⟨r1,r2⟩:=agg_eq_sound (w:=w) hxr hyr hne hb
      refine ⟨.bool !b,?_, .val _ rfl,rfl⟩
      have hgd:(eqGuard .neq t x y (.agg us.toArray) (.agg vs.toArray)).run P w = .ok () w:=by simp [eqGuard,r2]
      simp only [execOp,Sem.run_bind,hx,hy,hgd,Result.andThen_ok,binOp,r1]
      rfl
     ·cases hr
   ·cases hp
  ·cases hp
 ·rename_i op t x
  split at hp
  ·rename_i u e1
   have hx:=h.ev x
   rw [e1] at hx
   obtain ⟨hx,-⟩:=hx.val_inv
   obtain ⟨r,hr,rfl⟩:=Option.map_eq_some_iff.1 hp
   obtain ⟨r1,r2⟩:=pun_sound (P:=P) (w:=w) hr
   exact ⟨r,by simp [execOp,hx,r1], .val _ r2,rfl⟩
  ·cases hp
 ·rename_i s d x
  split at hp
  ·rename_i si di hs hd
   have hx:=h.ev x
   split at hp
   case h_2=>
    unfold pconvS at hp
    split at hp
    ·rename_i n k cs own e1
     rw [e1] at hx
     split at hp
     ·rename_i e kk by_ zr hk1 hk2
      split at hp
      ·rename_i ei he
       split at hp
       ·rename_i hke
        split at hp
        ·rename_i hk1'
         subst hk1'
         obtain ⟨bs,hbs,rfl⟩:=Option.map_eq_some_iff.1 hp
         obtain ⟨hu,-⟩:=slice_get (tab_at hT hs) hk1
         have hd':=kind_str (tab_at hT hd) hk2
         have he':=kind_int (tab_at hT he) hke
         obtain ⟨ad,b,off,cap,us,hv,q1,q2,q3,q4,q5,q6⟩:=hx.sl_inv
         have hcs:=bytesOf_get _ _ hbs
         subst hcs
         simp only [List.length_map,Nat.mul_one] at q3
         refine ⟨.string (strI bs),?_, .val _ rfl,rfl⟩
         simp only [execOp,Sem.run_bind,hv]
         rw [run_convert_bytes_string w s d e ad n cap hu he' hd']
         by_cases hn:0 < n
         ·obtain rfl:=q4 hn
          rw [run_bytesToString w ⟨b,off,none⟩ n cap bs (by
           have:=run_loadCells_list (P:=P) (w:=w) ⟨b,off,none⟩ (bs.map (Value.int .u8)) (by
            intro j u hj
            rw [List.getElem?_map] at hj
            obtain ⟨z,hz,rfl⟩:=Option.map_eq_some_iff.1 hj
            have hjl:j < bs.length:=(List.getElem?_eq_some_iff.1 hz).1
            have hr:=q6 j (.val (.int .u8 z)) (by simp [hz])
            rw [Addr.add_lit,h.imm _ _ _ (q5 j (by simpa using hjl)),hr.val_inv.1])
           rw [List.length_map,q3] at this
           first|exact this|simpa using this)]
          rfl
         ·have hb0:bs = []:=List.eq_nil_of_length_eq_zero (by omega)
          have hn0:n=0:=by omega
          subst hb0
          cases ad with
          |none=>simp [Conv.bytesToString,strI]
          |some ad=>
           rw [run_bytesToString w ad n cap [] (by subst hn0;first|rfl|simp [loadCells,loadCellsFrom])]
           rfl
        ·cases hp
       ·cases hp
      ·cases hp
     ·cases hp
    ·cases hp
   rename_i pp hpp
   simp only [Option.some.injEq] at hp
   subst hp
   have hp:=hpp
   unfold pconv at hp
   split at hp
   ·rename_i ik n e1
    rw [e1] at hx
    obtain ⟨hx,-⟩:=hx.val_inv
    split at hp
    ·rename_i k hk
     cases hp
     have hu:=kind_int (tab_at hT hd) hk
     obtain ⟨i1,d1,z1,-,g2,-⟩:=tyI_parts (tab_at hT hs)
     refine ⟨.int k (k.wrap n),?_, .val _ rfl,rfl⟩
     simp only [execOp,convert,Sem.run_bind,run_underlying g2,run_underlying hu,Result.andThen_ok,hx]
     simp [Conv.intToInt]
    ·cases hp
   ·rename_i st e1
    rw [e1] at hx
    obtain ⟨hx,-⟩:=hx.val_inv
    split at hp
    ·rename_i hk1 hk2
     cases hp
     have hu:=kind_str (tab_at hT hd) hk2
     have hu1:=kind_str (tab_at hT hs) hk1
     refine ⟨.string st,?_, .val _ rfl,rfl⟩
     simp only [execOp,convert,Sem.run_bind,run_underlying hu1,run_underlying hu,Result.andThen_ok,hx]
     simp
    ·cases hp
   ·cases hp
  ·cases hp
 ·rename_i t x lo hi mx
  split at hp
  case h_2=>cases hp
  split at hp
  ·rename_i ti ht
   have ho:∀y:Option Operand,RepO Φ μ (y.map (pev σ)) (y.map a.eval):=by
    intro y
    cases y with
    |none=>trivial
    |some y=>exact h.ev y
   obtain ⟨u,r1,r2,r3⟩:=slice_sound (P:=P) (w:=w) (tab_at hT ht) (h.ev x) (ho lo) (ho hi) hp
   exact ⟨u,by simp [execOp,r1],r2,r3⟩
  ·cases hp
 ·rename_i x i
  split at hp
  ·rename_i vs e1
   have hx:=h.ev x
   rw [e1] at hx
   obtain ⟨us,hv,hr⟩:=hx.tup_inv
   obtain ⟨c,hc,rfl⟩:=Option.map_eq_some_iff.1 hp
   obtain ⟨u,hu,hru⟩:=hr.get hc
   exact ⟨u,by simp [execOp,Instr.extract,hv,hu],hru.bare,PV.bare_own _⟩
  ·cases hp
 ·rename_i fn first caps
  split at hp
  case h_2=>cases hp
  rename_i f
  split at hp
  case isFalse=>cases hp
  rename_i hblt
  have hlt:f < 1000000:=by simpa [Nat.blt_eq] using hblt
  have hrl:∀l:Array Operand,RepL Φ μ (l.toList.map (pev σ)) (l.toList.map a.eval):=by
   intro l
   refine ⟨by simp,fun j c u h1 h2=>?_⟩
   rw [List.getElem?_map] at h1 h2
   obtain ⟨x,hx,rfl⟩:=Option.map_eq_some_iff.1 h1
   rw [hx] at h2
   simp at h2
   subst h2
   exact h.ev x
  have harr:∀l:Array Operand,(l.toList.map a.eval).toArray=l.map a.eval:=fun l=>by rw [←Array.toList_map,Array.toArray_toList]
  split at hp
  ·rename_i hfirst
   obtain rfl:first = #[]:=by
    have:first.toList = []:=by simpa using hfirst
    simpa using this
   cases hp
   refine ⟨.func (.func f) #[] (caps.map a.eval),by simp [execOp,Instr.makeFunc],?_,rfl⟩
   have h1:=(hrl caps).fn f
   rw [harr] at h1
   unfold fnV at h1
   rw [if_pos hlt] at h1
   exact h1
  ·split at hp
   ·rename_i hcaps
    obtain rfl:caps = #[]:=by
     have:caps.toList = []:=by simpa using hcaps
     simpa using this
    cases hp
    refine ⟨.func (.func f) (first.map a.eval) #[],by simp [execOp,Instr.makeFunc],?_,rfl⟩
    have h1:=(hrl first).fn (f+1000000)
    rw [harr] at h1
    unfold fnV at h1
    rw [if_neg (by omega),show unB (f+1000000)=f from Nat.add_sub_cancel ..] at h1
    exact h1
   ·cases hp
 ·rename_i t parts
  split at hp
  ·rename_i ti ht
   have hty:=tab_at hT ht
   obtain ⟨i,d,z,g1,g2,g3,g4,g5,g6⟩:=tyI_parts hty
   have hz:CellsR Φ μ ti.zero z.cells.toList:=by
    rw [g6]
    refine ⟨repL_pv0 _,g5,fun c hc=>?_⟩
    obtain ⟨v,-,rfl⟩:=List.mem_map.1 hc
    exact pv0_own v
   have hparts:∀(j:Nat) i p i' v,(parts.toList.map fun x=>(x.1,pev σ x.2))[j]? = some (i,p)→(parts.toList.map fun x=>(x.1,a.eval x.2))[j]? = some (i',v)→i' = i∧Rep Φ μ p v:=by
    intro j i p i' v h1 h2
    rw [List.getElem?_map] at h1 h2
    obtain ⟨x,hx,e⟩:=Option.map_eq_some_iff.1 h1
    rw [hx] at h2
    simp at h2 e
    obtain ⟨rfl,rfl⟩:=e
    obtain ⟨rfl,rfl⟩:=h2
    exact ⟨rfl,h.ev x.2⟩
   have hzv:(zeroValue t).run P w = .ok z w:=by simp [zeroValue,typeInfo,g1,g3]
   unfold pbuild at hp
   split at hp
   ·rename_i l hl
    obtain ⟨fs,hu,hlen,hget⟩:=struct_get hty hl
    obtain ⟨out,ho,rfl⟩:=Option.map_eq_some_iff.1 hp
    have hmap:(fs.mapM fun f=>(do pure (f.offset,←sizeOf f.type):Sem (Nat×Nat))).run P w = .ok (l.map fun x=>(x.1,x.2.1)).toArray w:=by
     have e1:∀(j:Nat) (fd:Field),fs.toList[j]? = some fd→∃x:Nat×Nat×Bool,l[j]? = some x∧((do pure (fd.offset,←sizeOf fd.type):Sem (Nat×Nat))).run P w = .ok (x.1,x.2.1) w:=by
      intro j fd hj
      have hjl:j < l.length:=by rw [hlen];simpa using (List.getElem?_eq_some_iff.1 hj).1
      obtain ⟨fd',i',d',k1,k2,k3,k4,-,-⟩:=hget j _ _ _ (show l[j]? = some (l[j].1,l[j].2.1,l[j].2.2) by simp [hjl])
      have:fd' = fd:=by
       have h3:fs.toList[j]? = some fd':=by simpa using k1
       rw [hj] at h3;simpa using h3.symm
      subst this
      exact ⟨l[j],by simp [hjl],by simp [run_size k3,k2,k4]⟩
     rw [Array.mapM_eq_mapM_toList,Sem.run_map,run_mapM_list (P:=P) (w:=w) _ _ (l.map fun x=>(x.1,x.2.1)) (by simp [hlen]) (by
      intro j fd y hj hy
      obtain ⟨x,hx,hr⟩:=e1 j fd hj
      rw [List.getElem?_map,hx] at hy
      simp at hy
      subst hy
      exact hr)]
     rfl
    obtain ⟨cur',r1,r2⟩:=fill_sound (fun (i:Nat)=>(l[i]?).map fun (x:Nat×Nat×Bool)=>(x.1,x.2.1)) _ (parts.toList.map fun (x:Nat×Operand)=>(x.1,a.eval x.2)) _ z.cells _ hz (by simp) hparts ho
    refine ⟨.agg cur',?_,by simpa using r2.1.agg,rfl⟩
    simp only [execOp,Instr.build,Sem.run_bind,hzv,Result.andThen_ok,run_underlying hu,hmap]
    have e:(fun (i:Nat)=>(l.map fun (x:Nat×Nat×Bool)=>(x.1,x.2.1)).toArray[i]?)=(fun (i:Nat)=>(l[i]?).map fun (x:Nat×Nat×Bool)=>(x.1,x.2.1)):=by
     funext i;simp
    simp only [e,Array.toList_map,r1]
    rfl
   ·rename_i n e k ag hk
    obtain ⟨hu,i',d',e3,e4,e5,e6⟩:=arr_get hty hk
    obtain ⟨out,ho,rfl⟩:=Option.map_eq_some_iff.1 hp
    obtain ⟨cur',r1,r2⟩:=fill_sound (fun i=>some (i * k,k)) _ (parts.toList.map fun (x:Nat×Operand)=>(x.1,a.eval x.2)) _ z.cells _ hz (by simp) hparts ho
    refine ⟨.agg cur',?_,by simpa using r2.1.agg,rfl⟩
    simp only [execOp,Instr.build,Sem.run_bind,hzv,Result.andThen_ok,run_underlying hu,run_size e3,e4,Array.toList_map,r1]
    rfl
   ·cases hp
  ·cases hp
 ·rename_i c
  obtain ⟨callee,args,argTypes⟩:=c
  simp only at hp
  split at hp
  case h_2=>cases hp
  split at hp
  case h_2=>cases hp
  rename_i x t ea et
  obtain rfl:args = #[x]:=by rw [←Array.toArray_toList (xs:=args),ea]
  obtain rfl:argTypes = #[t]:=by rw [←Array.toArray_toList (xs:=argTypes),et]
  split at hp
  ·rename_i ti ht
   have hx:=h.ev x
   obtain ⟨i,d,z,g1,g2,g3,g4,g5,g6⟩:=tyI_parts (tab_at hT ht)
   unfold plen at hp
   split at hp
   ·rename_i id o n k e1
    rw [e1] at hx
    split at hp
    ·rename_i hk
     cases hp
     obtain ⟨hu,-⟩:=slice_get (tab_at hT ht) hk
     obtain ⟨a',cap,hv,-⟩:=hx.msl_inv
     refine ⟨.int .i64 n,?_, .val _ rfl,rfl⟩
     simp [execOp,resolve,invoke,builtin,Builtin.len_,run_underlying hu,hv,goInt]
    ·cases hp
   ·rename_i n k cs own e1
    rw [e1] at hx
    split at hp
    ·rename_i hk
     cases hp
     obtain ⟨hu,-⟩:=slice_get (tab_at hT ht) hk
     obtain ⟨a',b,off,cap,us,hv,-⟩:=hx.sl_inv
     refine ⟨.int .i64 n,?_, .val _ rfl,rfl⟩
     simp [execOp,resolve,invoke,builtin,Builtin.len_,run_underlying hu,hv,goInt]
    ·cases hp
   ·rename_i e1
    rw [e1] at hx
    split at hp
    ·rename_i hk
     cases hp
     obtain ⟨hu,-⟩:=slice_get (tab_at hT ht) hk
     have hv:=hx.nilsl_inv
     refine ⟨.int .i64 0,?_, .val _ rfl,rfl⟩
     simp [execOp,resolve,invoke,builtin,Builtin.len_,run_underlying hu,hv,goInt]
    ·cases hp
   ·rename_i s e1
    rw [e1] at hx
    obtain ⟨hx,-⟩:=hx.val_inv
    split at hp
    ·rename_i hk
     cases hp
     refine ⟨.int .i64 s.size,?_, .val _ rfl,rfl⟩
     simp [execOp,resolve,invoke,builtin,Builtin.len_,run_underlying (kind_str (tab_at hT ht) hk),hx,goInt]
    ·cases hp
   ·split at hp
    ·rename_i n e k ag hk
     cases hp
     obtain ⟨hu,-⟩:=arr_get (tab_at hT ht) hk
     refine ⟨.int .i64 n,?_, .val _ rfl,rfl⟩
     simp [execOp,resolve,invoke,builtin,Builtin.len_,run_underlying hu,goInt]
    ·cases hp
  ·cases hp
 ·cases hp
end
end Go.Proofs.YtmeekbjhpidcgaaDoor
