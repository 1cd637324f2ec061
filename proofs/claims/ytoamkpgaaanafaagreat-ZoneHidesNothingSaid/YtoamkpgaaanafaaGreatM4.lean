/- Out of: PwE, PwF, PwG, PwH, PwR, Region, PlainY, PlainS, Wire4, Hu. -/
import Derived.Laws.BytesString
import Derived.WideLaws
import Derived.Test.YtoamkpgaaanafaaGreatM3
namespace Go.Proofs.YtoamkpgaaanafaaGreat
set_option linter.unusedSimpArgs false
set_option linter.unusedVariables false
set_option linter.unnecessarySimpa false
section
open Go.RowKit
def pbound (dflt:Nat) (m:Nat):Option PV→Option Nat
 |none=>some dflt
 |some (.val (.int _ i))=>if 0≤i∧i≤m then some i.toNat else none
 |_=>none
def pslice (td:TD) (x:PV) (lo hi:Option PV):Option PV:=
 match x with
 | .ptr id o=>match td with
  | .arr n _ k _=>match pbound n n hi with
   |some h=>match pbound 0 h lo with
    |some l=>if n≤1000000000 then some (.msl id (o+l * k) (h - l) k) else none
    |none=>none
   |none=>none
  | .parr n _ k=>match pbound n n hi with
   |some h=>match pbound 0 h lo with
    |some l=>if n≤1000000000 then some (.msl id (o+l * k) (h - l) k) else none
    |none=>none
   |none=>none
  |_=>none
 | .msl id o n k=>match td with
  | .slice _ k' _ _=>if k' = k then
    match pbound n n hi with
    |some h=>match pbound 0 h lo with
     |some l=>some (.msl id (o+l * k) (h - l) k)
     |none=>none
    |none=>none
   else none
  |_=>none
 | .sl n k cs _=>match td with
  | .slice _ k' _ _=>if k' = k then
    match pbound n n hi with
    |some h=>match pbound 0 h lo with
     |some l=>some (.sl (h - l) k ((cs.drop (l * k)).take ((h - l) * k)) none)
     |none=>none
    |none=>none
   else none
  |_=>none
 | .val (.string s)=>match td with
  | .str=>match pbound s.size s.size hi with
    |some h=>match pbound 0 h lo with
     |some l=>some (.val (.string (s.extract l h)))
     |none=>none
    |none=>none
  |_=>none
 |_=>none
end
section
open Go.RowKit
variable {Φ:Imm} {μ:Nat→Option Nat} {w:World} {P:Program}
theorem bound_sound {d m l:Nat} {p:PV} {u:Value} (hr:Rep Φ μ p u) (hp:pbound d m (some p)=some l) (m' : Nat) (hm:m≤m') (code:BoundsCode):(Instr.sliceBound u m' code).run P w = .ok l w∧l≤m:=by
 unfold pbound at hp
 split at hp
 ·rename_i e;cases e
 ·rename_i k i e
  cases e
  obtain ⟨rfl,-⟩:=hr.val_inv
  split at hp
  ·rename_i hc
   cases hp
   refine ⟨?_,by omega⟩
   have h1:0≤i∧i≤(m' : Int):=⟨hc.1,by omega⟩
   simp [Instr.sliceBound,asIntOf,h1]
  ·cases hp
 ·cases hp
def RepO (Φ:Imm) (μ:Nat→Option Nat) (x:Option PV) (v:Option Value):Prop:=match x,v with
 |none,none=>True
 |some p,some u=>Rep Φ μ p u
 |_,_=>False
theorem bounds_sound {x y:Option PV} {vx vy:Option Value} (hx:RepO Φ μ x vx) (hy:RepO Φ μ y vy) {n h l cap:Nat} {isS:Bool} (hn:n≤cap) (h1:pbound n n y=some h) (h2:pbound 0 h x=some l) :
  (Instr.sliceBounds isS n cap vx vy none).run P w = .ok (l,h,cap) w∧l≤h∧h≤n:=by
 have a1:∀code,(match vy with|some v=>Instr.sliceBound v cap code|none=>pure n:Sem Nat).run P w = .ok h w∧h≤n:=by
  intro code
  cases y with
  |none=>cases vy with
   |none=>simp [pbound] at h1;subst h1;simp
   |some v=>exact hy.elim
  |some p=>cases vy with
   |none=>exact hy.elim
   |some v=>exact bound_sound hy h1 cap hn code
 have a2:∀code,(match vx with|some v=>Instr.sliceBound v h code|none=>pure 0:Sem Nat).run P w = .ok l w∧l≤h:=by
  intro code
  cases x with
  |none=>cases vx with
   |none=>simp [pbound] at h2;subst h2;simp
   |some v=>exact hx.elim
  |some p=>cases vx with
   |none=>exact hx.elim
   |some v=>exact bound_sound hx h2 h (Nat.le_refl _) code
 refine ⟨?_,(a2 .sliceB).2,(a1 .sliceB).2⟩
 unfold Instr.sliceBounds
 simp only [Sem.run_bind,Sem.run_pure,Result.andThen_ok]
 have b1:=(a1 (if isS=true then .sliceAcap else .sliceAlen)).1
 have b2:=(a2 .sliceB).1
 cases vy with
 |none=>
  simp only [Sem.run_pure] at b1
  cases b1
  cases vx with
  |none=>simp only [Sem.run_pure] at b2;cases b2;simp
  |some v=>simp only [] at b2;simp [b2]
 |some v=>
  simp only [] at b1
  cases vx with
  |none=>simp only [Sem.run_pure] at b2;cases b2;simp [b1]
  |some v=>simp only [] at b2;simp [b1,b2]
theorem slice_sound {t:TypeId} {ti:TyI} (ht:tyI P t=some ti) {q p:PV} {v:Value} {x y:Option PV} {vx vy:Option Value} (hv:Rep Φ μ q v) (hx:RepO Φ μ x vx) (hy:RepO Φ μ y vy) (hp:pslice ti.kind q x y=some p) :
  ∃r,(Instr.sliceAt t v vx vy none).run P w = .ok r w∧Rep Φ μ p r∧p.ownB=false:=by
 unfold pslice at hp
 split at hp
 ·rename_i id o
  split at hp
  ·rename_i n e k ag hk
   split at hp
   ·rename_i h hh
    split at hp
    ·rename_i l hl
     split at hp
     case isFalse=>cases hp
     rename_i hm0
     have hm:n≤maxLen:=by unfold maxLen;omega
     cases hp
     obtain ⟨hu,i',d',e1,e2,e3,e4⟩:=arr_get ht hk
     obtain ⟨g,hg,rfl⟩:=hv.ptr_inv
     obtain ⟨r1,r2,r3⟩:=bounds_sound (P:=P) (w:=w) (isS:=false) hx hy (Nat.le_refl n) hh hl
     refine ⟨.slice (some (if n=l then ⟨g,o,none⟩ else (⟨g,o,none⟩:Addr).add (l * k))) (h - l) (n - l),?_, .msl _ _ _ _ _ _ (fun hpos=>⟨g,hg,?_⟩) (by omega) (by omega),rfl⟩
     ·simp only [Instr.sliceAt,Sem.run_bind,run_underlying hu,Result.andThen_ok,Instr.sureAddr,r1,run_size e1,e2,Sem.run_pure]
     ·rw [if_neg (by omega),Addr.add_lit]
    ·cases hp
   ·cases hp
  ·rename_i n e k hk
   split at hp
   ·rename_i h hh
    split at hp
    ·rename_i l hl
     split at hp
     case isFalse=>cases hp
     rename_i hm0
     have hm:n≤maxLen:=by unfold maxLen;omega
     cases hp
     obtain ⟨t',hu,hu',i',e1,e2⟩:=parr_get ht hk
     obtain ⟨g,hg,rfl⟩:=hv.ptr_inv
     obtain ⟨r1,r2,r3⟩:=bounds_sound (P:=P) (w:=w) (isS:=false) hx hy (Nat.le_refl n) hh hl
     refine ⟨.slice (some (if n=l then ⟨g,o,none⟩ else (⟨g,o,none⟩:Addr).add (l * k))) (h - l) (n - l),?_, .msl _ _ _ _ _ _ (fun hpos=>⟨g,hg,?_⟩) (by omega) (by omega),rfl⟩
     ·simp only [Instr.sliceAt,Sem.run_bind,run_underlying hu,Result.andThen_ok,Instr.slice,asAddr,run_underlying hu',r1,run_size e1,e2,Sem.run_pure]
     ·rw [if_neg (by omega),Addr.add_lit]
    ·cases hp
   ·cases hp
  ·cases hp
 ·rename_i id o n k
  split at hp
  ·rename_i e k' by_ zr hk
   split at hp
   ·rename_i hkk
    subst hkk
    split at hp
    ·rename_i h hh
     split at hp
     ·rename_i l hl
      cases hp
      obtain ⟨hu,i',z',e1,e2,e3,e4,e5,e6,-,-⟩:=slice_get ht hk
      obtain ⟨a,cap,rfl,c1,c2,c4⟩:=hv.msl_inv
      obtain ⟨r1,r2,r3⟩:=bounds_sound (P:=P) (w:=w) (isS:=true) hx hy c1 hh hl
      refine ⟨.slice (if cap=l then a else a.map (·.add (l * k'))) (h - l) (cap - l),?_,?_,rfl⟩
      ·simp only [Instr.sliceAt,Sem.run_bind,run_underlying hu,Result.andThen_ok,Instr.slice,r1,run_size e1,e3,Sem.run_pure]
      ·refine .msl _ _ _ _ _ _ (fun hpos=>?_) (by omega) (by omega)
       obtain ⟨g,hg,rfl⟩:=c4 (by omega)
       rw [if_neg (by omega)]
       exact ⟨g,hg,by simp only [Option.map_some,Addr.add_lit]⟩
     ·cases hp
    ·cases hp
   ·cases hp
  ·cases hp
 ·rename_i n k cs own
  split at hp
  ·rename_i e k' by_ zr hk
   split at hp
   ·rename_i hkk
    subst hkk
    split at hp
    ·rename_i h hh
     split at hp
     ·rename_i l hl
      cases hp
      obtain ⟨hu,i',z',e1,e2,e3,e4,e5,e6,-,-⟩:=slice_get ht hk
      obtain ⟨a,b,off,cap,us,rfl,c1,c2,c3,c4,c5,c6⟩:=hv.sl_inv
      obtain ⟨r1,r2,r3⟩:=bounds_sound (P:=P) (w:=w) (isS:=true) hx hy c1 hh hl
      refine ⟨.slice (if cap=l then a else a.map (·.add (l * k'))) (h - l) (cap - l),?_,?_,rfl⟩
      ·simp only [Instr.sliceAt,Sem.run_bind,run_underlying hu,Result.andThen_ok,Instr.slice,r1,run_size e1,e3,Sem.run_pure]
      ·by_cases hz:h - l=0
       ·have:(cs.drop (l * k')).take ((h - l) * k') = []:=by rw [hz];simp
        rw [this,hz]
        exact .sl0 _ _ _ _ (by omega)
       ·obtain rfl:=c4 (by omega)
        rw [if_neg (by omega)]
        simp only [Option.map_some,Addr.add_lit]
        have hbig:l * k' + (h - l) * k'≤n * k':=by rw [←Nat.add_mul];exact Nat.mul_le_mul_right _ (by omega)
        refine .sl _ _ _ _ b (off+l * k') _ (fun j=>us (l * k' + j)) ?_ (by omega) (by omega) ?_ ?_
        ·rw [List.length_take,List.length_drop,c3];omega
        ·intro j hj
         rw [List.length_take,List.length_drop,c3] at hj
         rw [Nat.add_assoc]
         exact c5 _ (by omega)
        ·intro j c hc
         rw [List.getElem?_take] at hc
         split at hc
         ·rw [List.getElem?_drop] at hc;exact c6 _ _ hc
         ·cases hc
     ·cases hp
    ·cases hp
   ·cases hp
  ·cases hp
 ·rename_i s
  split at hp
  ·rename_i hk
   split at hp
   ·rename_i h hh
    split at hp
    ·rename_i l hl
     cases hp
     obtain ⟨rfl,-⟩:=hv.val_inv
     have hu:=kind_str ht hk
     obtain ⟨r1,r2,r3⟩:=bounds_sound (P:=P) (w:=w) (isS:=false) hx hy (Nat.le_refl s.size) hh hl
     refine ⟨.string (s.extract l h),?_, .val _ rfl,rfl⟩
     simp [Instr.sliceAt,run_underlying hu,Instr.slice,r1]
    ·cases hp
   ·cases hp
  ·cases hp
 ·cases hp
end
section
open Go.RowKit
def pcells:PV→Option (List PV)
 | .agg cs=>if cs.all PV.one then some (cs.map PV.bare) else none
 |p=>if p.one then some [p.bare] else none
def splice (cs:List PV) (off:Nat) (new:List PV):List PV:=cs.take off ++ new ++ cs.drop (off+new.length)
def splF:List PV→Nat→List PV→List PV
 |cs,0,[]=>cs
 |_ :: cs,0,n :: new=>n :: splF cs 0 new
 | [],0,n :: new=>n :: new
 |c :: cs,off+1,new=>c :: splF cs off new
 | [],_+1,new=>new
theorem splF_eq:∀(cs:List PV) (off:Nat) (new:List PV),off+new.length≤cs.length→splF cs off new=splice cs off new
 |cs,0,[],_=>by cases cs<;>simp [splF,splice]
 |c :: cs,0,n :: new,h=>by
  have:=splF_eq cs 0 new (by simp at h ⊢; omega)
  simp only [splF,this,splice]
  simp [Nat.add_comm]
 | [],0,n :: new,h=>by simp at h
 |c :: cs,off+1,new,h=>by
  have:=splF_eq cs off new (by simp at h;omega)
  simp only [splF,this,splice]
  rw [show off+1+new.length=(off+new.length)+1 by omega]
  simp
 | [],off+1,new,h=>by simp at h
def pfill (place:Nat→Option (Nat×Nat)) (cs:List PV):List (Nat×PV)→Option (List PV)
 | []=>some cs
 |(i,p) :: rest=>match place i,pcells p with
  |some (off,size),some new=>if new.length=size∧off+size≤cs.length then pfill place (splF cs off new) rest else none
  |_,_=>none
def CellsR (Φ:Imm) (μ:Nat→Option Nat) (cs:List PV) (us:List Value):Prop:=RepL Φ μ cs us∧(∀u∈us,u.oneCell' = true)∧∀c∈cs,c.ownB=false
theorem repL_bare {Φ:Imm} {μ:Nat→Option Nat} {cs:List PV} {us:List Value} (h:RepL Φ μ cs us):RepL Φ μ (cs.map PV.bare) us:=by
 refine ⟨by simp [h.1],fun j c u h1 h2=>?_⟩
 rw [List.getElem?_map] at h1
 obtain ⟨c',hc',rfl⟩:=Option.map_eq_some_iff.1 h1
 exact (h.2 j c' u hc' h2).bare
theorem repL_one {Φ:Imm} {μ:Nat→Option Nat} {cs:List PV} {us:List Value} (h:RepL Φ μ cs us) (ho:cs.all PV.one=true):∀u∈us,u.oneCell' = true:=by
 intro u hu
 obtain ⟨j,hj⟩:=List.getElem?_of_mem hu
 have hjl:j < cs.length:=by rw [←h.1];exact (List.getElem?_eq_some_iff.1 hj).1
 exact ((h.2 j cs[j] u (by simp [hjl]) hj).one (List.all_eq_true.1 ho _ (by simp))).1
theorem pcells_sound {Φ:Imm} {μ:Nat→Option Nat} {p:PV} {v:Value} (h:Rep Φ μ p v) {cs:List PV} (hc:pcells p=some cs):CellsR Φ μ cs v.cells.toList:=by
 unfold pcells at hc
 split at hc
 ·rename_i ds
  split at hc
  ·rename_i ho
   cases hc
   obtain ⟨us,rfl,hr⟩:=h.agg_inv
   refine ⟨by simpa [Value.cells] using repL_bare hr,by simpa [Value.cells] using repL_one hr ho,fun c hcm=>?_⟩
   obtain ⟨c',-,rfl⟩:=List.mem_map.1 hcm
   exact PV.bare_own _
  ·cases hc
 ·split at hc
  ·rename_i ho
   cases hc
   obtain ⟨h1,h2⟩:=h.one ho
   rw [h2]
   refine ⟨RepL.cons h.bare RepL.nil,by simpa using h1,by simpa using PV.bare_own _⟩
  ·cases hc
theorem repL_splice {Φ:Imm} {μ:Nat→Option Nat} {cs new:List PV} {us vs:List Value} {off:Nat} (h:CellsR Φ μ cs us) (hn:CellsR Φ μ new vs) (hle:off+new.length≤cs.length):CellsR Φ μ (splice cs off new) (us.take off ++ vs ++ us.drop (off+vs.length)):=by
 have hl:=h.1.1
 have hl2:=hn.1.1
 refine ⟨⟨?_,fun j c u h1 h2=>?_⟩,fun u hu=>?_,fun c hc=>?_⟩
 ·simp only [splice,List.length_append,List.length_take,List.length_drop];omega
 ·unfold splice at h1
  by_cases h3:j < off
  ·rw [List.append_assoc,List.getElem?_append_left (by rw [List.length_take];omega),List.getElem?_take,if_pos h3] at h1 h2
   exact h.1.2 j c u h1 h2
  ·by_cases h4:j < off+new.length
   ·rw [List.append_assoc,List.getElem?_append_right (by rw [List.length_take];omega),List.length_take,List.getElem?_append_left (by omega)] at h1 h2
    rw [show min off cs.length=off by omega] at h1
    rw [show min off us.length=off by omega] at h2
    exact hn.1.2 _ c u h1 h2
   ·rw [List.getElem?_append_right (by rw [List.length_append,List.length_take];omega),List.length_append,List.length_take,List.getElem?_drop] at h1 h2
    rw [show off+new.length+(j - (min off cs.length+new.length))=j by omega] at h1
    rw [show off+vs.length+(j - (min off us.length+vs.length))=j by omega] at h2
    exact h.1.2 j c u h1 h2
 ·simp only [List.mem_append] at hu
  rcases hu with (hu|hu)|hu
  ·exact h.2.1 u (List.mem_of_mem_take hu)
  ·exact hn.2.1 u hu
  ·exact h.2.1 u (List.mem_of_mem_drop hu)
 ·simp only [splice,List.mem_append] at hc
  rcases hc with (hc|hc)|hc
  ·exact h.2.2 c (List.mem_of_mem_take hc)
  ·exact hn.2.2 c hc
  ·exact h.2.2 c (List.mem_of_mem_drop hc)
theorem fold_set (off:Nat):∀(vs:List Value) (k:Nat) (cs:Array Value),off+k+vs.length≤cs.size →
  ((vs.zipIdx k).foldl (fun cs (x:Value×Nat)=>cs.setIfInBounds (off+x.2) x.1) cs).toList=cs.toList.take (off+k) ++ vs ++ cs.toList.drop (off+k+vs.length)
 | [],k,cs,h=>by simp
 |v :: vs,k,cs,h=>by
  simp only [List.length_cons] at h
  rw [List.zipIdx_cons,List.foldl_cons,fold_set off vs (k+1) _ (by simp;omega)]
  simp only [Array.toList_setIfInBounds]
  have hk:off+k < cs.toList.length:=by simp;omega
  rw [show off+(k+1)=off+k+1 by omega]
  rw [List.take_add_one,List.take_set_of_le (by omega),List.getElem?_set_self (by simpa using hk)]
  rw [List.drop_set_of_lt (by omega)]
  simp only [Option.toList_some,List.append_assoc,List.cons_append,List.nil_append,List.length_cons]
  rw [show off+k+1+vs.length=off+k+(vs.length+1) by omega]
theorem fill_sound {Φ:Imm} {μ:Nat→Option Nat} (place:Nat→Option (Nat×Nat)):∀(ps:List (Nat×PV)) (vs:List (Nat×Value)) (cs:List PV) (cur:Array Value) (out:List PV),CellsR Φ μ cs cur.toList →
  vs.length=ps.length→(∀(j:Nat) i p i' v,ps[j]? = some (i,p)→vs[j]? = some (i',v)→i' = i∧Rep Φ μ p v)→pfill place cs ps=some out→∃cur',Instr.fill place cur vs=some cur'∧CellsR Φ μ out cur'.toList
 | [],vs,cs,cur,out,hc,hl,_,h=>by
  obtain rfl:vs = []:=List.eq_nil_of_length_eq_zero (by simpa using hl)
  simp [pfill] at h;subst h
  exact ⟨cur,rfl,hc⟩
 |(i,p) :: ps,[],cs,cur,out,hc,hl,_,h=>by simp at hl
 |(i,p) :: ps,(i',v) :: vs,cs,cur,out,hc,hl,hr,h=>by
  obtain ⟨rfl,hpv⟩:=hr 0 i p i' v rfl rfl
  simp only [pfill] at h
  split at h
  ·rename_i off size new hpl hnew
   split at h
   ·rename_i hcond
    have hn:=pcells_sound hpv hnew
    have hlen:=hn.1.1
    have hl0:=hc.1.1
    simp only [Array.length_toList] at hlen hl0
    have hsp:=repL_splice hc hn (off:=off) (by omega)
    rw [splF_eq cs off new (by omega)] at h
    obtain ⟨cur',r1,r2⟩:=fill_sound place ps vs (splice cs off new) (v.cells.zipIdx.foldl (fun cs (x:Value×Nat)=>cs.setIfInBounds (off+x.2) x.1) cur) out (by
     have:=fold_set off v.cells.toList 0 cur (by simp;omega)
     rw [Nat.add_zero] at this
     rw [←Array.foldl_toList,Array.toList_zipIdx,this];exact hsp) (by simpa using hl) (fun j a b c d e1 e2=>hr (j+1) a b c d (by simpa using e1) (by simpa using e2)) h
    refine ⟨cur',?_,r2⟩
    rw [Instr.fill,hpl]
    simp only
    rw [if_neg (by simp;omega)]
    exact r1
   ·cases h
  ·cases h
abbrev Tab:=List (Option TyI)
def Tab.at (T:Tab) (t:TypeId):Option TyI:=(T[t]?).getD none
theorem tab_at {P:Program} {T:Tab} (hT:T=tabOf P) {t:TypeId} {x:TyI} (h:T.at t=some x):tyI P t=some x:=by
 refine tyTab_get hT ?_
 unfold Tab.at at h
 cases hx:T[t]? with
 |none=>rw [hx] at h;cases h
 |some y=>rw [hx] at h;simp at h;rw [h]
def pfieldOf (td:TD) (f:Nat):PV→Option PV
 | .agg cs=>match td with
  | .struct l=>match l[f]? with
   |some (off,size,agg)=>asVal agg size cs off
   |none=>none
  |_=>none
 |_=>none
def pindexV (td:TD):PV→PV→Option PV
 | .val (.string s), .val (.int _ i)=>match td with
  | .str=>if 0≤i then (match s[i.toNat]? with|some b=>some (.val (.int .u8 b.toNat))|none=>none) else none
  |_=>none
 | .agg cs, .val (.int _ i)=>match td with
  | .arr n _ k ag=>if 0≤i∧i < n then asVal ag k cs (i.toNat * k) else none
  |_=>none
 |_,_=>none
def pconv (src dst:TD):PV→Option PV
 | .val (.int _ n)=>match dst with
  | .int k=>some (.val (.int k (k.wrap n)))
  |_=>none
 | .val (.string s)=>match src,dst with
  | .str, .str=>some (.val (.string s))
  |_,_=>none
 |_=>none
def bytesOf:List PV→Option (List Int)
 | []=>some []
 | .val (.int .u8 b) :: r=>(bytesOf r).map (b :: ·)
 |_=>none
def strI (bs:List Int):ByteArray:=bs.foldl (fun r n=>r.push (UInt8.ofNat n.toNat)) ByteArray.empty
theorem bytesOf_get:∀(cs:List PV) (bs:List Int),bytesOf cs=some bs→cs=bs.map fun b=>.val (.int .u8 b)
 | [],bs,h=>by simp [bytesOf] at h;subst h;rfl
 |c :: cs,bs,h=>by
  cases c with
  |val v=>cases v with
   |int k b=>cases k with
    |u8=>
     simp only [bytesOf] at h
     obtain ⟨l,hl,rfl⟩:=Option.map_eq_some_iff.1 h
     rw [bytesOf_get cs l hl];rfl
    |_=>simp [bytesOf] at h
   |_=>simp [bytesOf] at h
  |_=>simp [bytesOf] at h
theorem bytesOf_map:∀(bs:List Int),bytesOf (bs.map fun b=>.val (.int .u8 b))=some bs
 | []=>rfl
 |b :: bs=>by simp [bytesOf,bytesOf_map bs]
def pconvS (T:Tab) (src dst:TD):PV→Option PV
 | .sl _ k cs _=>match src,dst with
  | .slice e _ _ _, .str=>match T.at e with
   |some ei=>match ei.kind with
    | .int .u8=>if k=1 then (bytesOf cs).map fun bs=>.val (.string (strI bs)) else none
    |_=>none
   |none=>none
  |_,_=>none
 |_=>none
def plen (td:TD):PV→Option PV
 | .msl _ _ n _=>match td with
  | .slice .. => some (.val (.int .i64 n))
  |_=>none
 | .sl n _ _ _=>match td with
  | .slice .. => some (.val (.int .i64 n))
  |_=>none
 | .nilsl=>match td with
  | .slice .. => some (.val (.int .i64 0))
  |_=>none
 | .val (.string s)=>match td with
  | .str=>some (.val (.int .i64 s.size))
  |_=>none
 |_=>match td with
  | .arr n _ _ _=>some (.val (.int .i64 n))
  |_=>none
def pbuild (T:Tab) (ti:TyI) (ps:List (Nat×PV)):Option PV:=
 match ti.kind with
 | .struct l=>(pfill (fun i=>(l[i]?).map fun x=>(x.1,x.2.1)) ti.zero ps).map .agg
 | .arr _ _ k _=>(pfill (fun i=>some (i * k,k)) ti.zero ps).map .agg
 |_=>none
def veq:SK→Value→Value→Option Bool
 | .int, .int k a, .int k' b=>if k=k' then some (a == b) else none
 | .str, .string a, .string b=>some (a == b)
 | .bool, .bool a, .bool b=>some (a == b)
 |_,_,_=>none
def peqs:List SK→List PV→List PV→Option Bool
 | [],[],[]=>some true
 |k :: ks, .val a :: xs, .val b :: ys=>match veq k a b,peqs ks xs ys with
  |some r,some s=>some (r && s)
  |_,_=>none
 |_,_,_=>none
def pbinA (op:BinOp) (ks:List SK) (xs ys:List PV):Option Value:=match ks with
 | []=>none
 |_ :: _=>match op with
  | .eql=>(peqs ks xs ys).map .bool
  | .neq=>(peqs ks xs ys).map fun b=>.bool !b
  |_=>none
def pval (T:Tab) (σ:PS):Op→Option PV
 | .move x=>some (pev σ x)
 | .pick c x y=>match pev σ c with
  | .val (.bool b)=>some (if b then pev σ x else pev σ y)
  |_=>none
 | .load t x=>match T.at t with
  |some ti=>ploadAt ti σ.b (pev σ x)
  |none=>none
 | .fieldAddr s x f=>match T.at s with
  |some ti=>match ti.kind with
   | .struct l=>pfield l f (pev σ x)
   |_=>none
  |none=>none
 | .field s x f=>match T.at s with
  |some ti=>pfieldOf ti.kind f (pev σ x)
  |none=>none
 | .indexAddr t x i=>match T.at t with
  |some ti=>pindexAt ti.kind (pev σ x) (pev σ i)
  |none=>none
 | .index t x i=>match T.at t with
  |some ti=>pindexV ti.kind (pev σ x) (pev σ i)
  |none=>none
 | .binOp op t x y _=>match pev σ x,pev σ y with
  | .val u, .val v=>match pbin op u v with
   |some r=>some (.val r)
   |none=>match T.at t with
    |some ti=>(pbinB op ti.kind u v).map .val
    |none=>none
  | .agg xs, .agg ys=>match T.at t with
   |some ti=>(pbinA op ti.eqs xs ys).map .val
   |none=>none
  |_,_=>none
 | .unOp op _ x=>match pev σ x with
  | .val u=>(pun op u).map .val
  |_=>none
 | .convert s d x=>match T.at s,T.at d with
  |some si,some di=>match pconv si.kind di.kind (pev σ x) with
   |some p=>some p
   |none=>pconvS T si.kind di.kind (pev σ x)
  |_,_=>none
 | .slice t x lo hi mx=>match mx with
  |none=>match T.at t with
   |some ti=>pslice ti.kind (pev σ x) (lo.map (pev σ)) (hi.map (pev σ))
   |none=>none
  |some _=>none
 | .extract x i=>match pev σ x with
  | .tup vs=>(vs[i]?).map PV.bare
  |_=>none
 | .makeFunc fn first caps=>match fn with
  | .func f=>if Nat.blt f 1000000 then (if first.toList.isEmpty then some (.fn f (caps.toList.map (pev σ))) else if caps.toList.isEmpty then some (.fn (f+1000000) (first.toList.map (pev σ))) else none) else none
  |_=>none
 | .build t parts=>match T.at t with
  |some ti=>pbuild T ti (parts.toList.map fun x=>(x.1,pev σ x.2))
  |none=>none
 | .call c=>match c.callee with
  | .builtin .len=>match c.args.toList,c.argTypes.toList with
   | [x],[t]=>match T.at t with
    |some ti=>plen ti.kind (pev σ x)
    |none=>none
   |_,_=>none
  |_=>none
 |_=>none
end
section
open Go.RowKit
variable {Φ0:Ent} {W:World} {M:Nat} {Φ:Imm} {μ:Nat→Option Nat} {ω:Nat→Option Who} {σ:PS} {a:Act} {w:World} {P:Program} {T:Tab}
theorem run_mapM_list {α β:Type} (f:α→Sem β):∀(l:List α) (r:List β),r.length=l.length→(∀(j:Nat) x y,l[j]? = some x→r[j]? = some y→(f x).run P w = .ok y w)→(l.mapM f).run P w = .ok r w
 | [],r,hl,_=>by
  obtain rfl:r = []:=List.eq_nil_of_length_eq_zero (by simpa using hl)
  simp
 |x :: l,[],hl,_=>by simp at hl
 |x :: l,y :: r,hl,h=>by
  rw [List.mapM_cons]
  simp only [Sem.run_bind,h 0 x y rfl rfl,Result.andThen_ok,run_mapM_list f l r (by simpa using hl) (fun j a b h1 h2=>h (j+1) a b (by simpa using h1) (by simpa using h2)),Sem.run_pure]
theorem asVal_part {cs:List PV} {us:List Value} (hr:RepL Φ μ cs us) {t:TypeId} {i:TypeInfo} {d:TypeDesc} (h1:P.info? t=some i) (h2:P.underlying t=some d) {off:Nat} {p:PV} (hp:asVal (aggD d) i.size cs off=some p) :
  ∃v,(part t us.toArray off).run P w = .ok v w∧Rep Φ μ p v∧p.ownB=false:=by
 unfold asVal at hp
 unfold part
 simp only [Sem.run_bind,run_isAgg h2,Result.andThen_ok]
 split at hp
 ·rename_i hagg
  split at hp
  ·rename_i hle
   cases hp
   simp only [hagg,if_true,Sem.run_bind,run_size h1,Result.andThen_ok,Sem.run_pure]
   refine ⟨_,rfl,?_,rfl⟩
   have e:us.toArray.extract off (off+i.size)=((us.drop off).take i.size).toArray:=by
    simp [List.extract_toArray,List.extract_eq_take_drop]
   rw [e]
   refine RepL.agg (repL_bare ?_)
   refine ⟨by simp [hr.1],fun j c u h3 h4=>?_⟩
   rw [List.getElem?_take] at h3 h4
   split at h3
   ·rename_i hj
    rw [if_pos hj] at h4
    rw [List.getElem?_drop] at h3 h4
    exact hr.2 _ c u h3 h4
   ·cases h3
  ·cases hp
 ·rename_i hagg
  obtain ⟨c,hc,rfl⟩:=Option.map_eq_some_iff.1 hp
  have hagg' : aggD d=false:=by simpa using hagg
  obtain ⟨u,hu,hru⟩:=hr.get hc
  refine ⟨u,?_,hru.bare,PV.bare_own _⟩
  simp [hagg',hu]
theorem run_forIn_eq {α:Type} (body:α→Option Bool×Unit→Sem (ForInStep (Option Bool×Unit))) (c:α→Bool):∀(l:List α),(∀x∈l,∀s,(body x s).run P w = .ok (if c x then .yield (none,()) else .done (some false,())) w) →
  (forIn l ((none,()):Option Bool×Unit) body).run P w = .ok (if l.all c then (none,()) else (some false,())) w
 | [],_=>by simp
 |x :: l,h=>by
  rw [List.forIn_cons,Sem.run_bind,h x (by simp)]
  by_cases hc:c x=true
  ·simp only [hc,if_true,Result.andThen_ok,List.all_cons,Bool.true_and]
   exact run_forIn_eq body c l (fun y hy=>h y (by simp [hy]))
  ·have hc' : c x=false:=by simpa using hc
   simp [hc']
theorem run_veq {k:SK} {t:TypeId} (hk:skOf P t=some k) {a b:Value} {r:Bool} (h:veq k a b=some r) (d:Nat):(Op.equalIn (d+1) t a b).run P w = .ok r w:=by
 rw [Op.equalIn]
 unfold skOf at hk
 split at hk
 ·rename_i kk i hu hi
  split at hk
  ·cases hk
   unfold veq at h
   split at h
   ·rename_i k1 a k2 b e
    split at h
    ·rename_i hkk
     subst hkk
     cases h
     simp [run_underlying hu]
    ·cases h
   ·rename_i e;cases e
   ·rename_i e;cases e
   ·cases h
  ·cases hk
 ·rename_i i hu hi
  split at hk
  ·cases hk
   unfold veq at h
   split at h
   ·rename_i e;cases e
   ·rename_i e;cases e
   ·cases h;simp [run_underlying hu]
   ·cases h
  ·cases hk
 ·rename_i i hu hi
  split at hk
  ·cases hk
   unfold veq at h
   split at h
   ·rename_i e;cases e
   ·cases h;simp [run_underlying hu]
   ·rename_i e;cases e
   ·cases h
  ·cases hk
 ·cases hk
theorem peqs_get : ∀ (ks : List SK) (xs ys : List PV) (r : Bool), peqs ks xs ys = some r → xs.length = ks.length ∧ ys.length = ks.length ∧ ∃ cs : List Bool, cs.length = ks.length ∧ r = cs.all id ∧ ∀ (j : Nat) k, ks[j]? = some k → ∃ a b c, xs[j]? = some (.val a) ∧ ys[j]? = some (.val b) ∧ cs[j]? = some c ∧ veq k a b = some c
  | [], [], [], r, h => by simp [peqs] at h; subst h; exact ⟨rfl, rfl, [], rfl, rfl, fun j k hj => by simp at hj⟩
  | k :: ks, .val a :: xs, .val b :: ys, r, h => by
    simp only [peqs] at h
    split at h
    · rename_i r1 r2 h1 h2
      cases h
      obtain ⟨l1, l2, cs, l3, rfl, hg⟩ := peqs_get ks xs ys r2 h2
      refine ⟨by simp [l1], by simp [l2], r1 :: cs, by simp [l3], by simp, fun j k' hj => ?_⟩
      cases j with
      | zero => simp at hj; subst hj; exact ⟨a, b, r1, rfl, rfl, rfl, h1⟩
      | succ j => simp at hj; simpa using hg j k' hj
    · cases h
  | [], _ :: _, _, r, h => by simp [peqs] at h
  | [], [], _ :: _, r, h => by simp [peqs] at h
  | _ :: _, [], _, r, h => by simp [peqs] at h
  | _ :: _, .val _ :: _, [], r, h => by simp [peqs] at h
  | _ :: _, p :: _, q :: _, r, h => by
    cases p with
    | val a => cases q with
      | val b => simp only [peqs] at h; split at h
                 · rename_i ks xs ys r1 r2 h1 h2
                   cases h
                   obtain ⟨l1, l2, cs, l3, rfl, hg⟩ := peqs_get _ _ _ r2 h2
                   refine ⟨by simp [l1], by simp [l2], r1 :: cs, by simp [l3], by simp, fun j k' hj => ?_⟩
                   cases j with
                   | zero => simp at hj; subst hj; exact ⟨a, b, r1, rfl, rfl, rfl, h1⟩
                   | succ j => simp at hj; simpa using hg j k' hj
                 · cases h
      | _ => simp [peqs] at h
    | _ => simp [peqs] at h
theorem peqs_app:∀(k1 k2:List SK) (xs ys:List PV) (r:Bool),peqs (k1 ++ k2) xs ys=some r→∃r1 r2,peqs k1 (xs.take k1.length) (ys.take k1.length)=some r1∧peqs k2 (xs.drop k1.length) (ys.drop k1.length)=some r2∧r=(r1 && r2)
 | [],k2,xs,ys,r,h=>⟨true,r,by simp [peqs],by simpa using h,by simp⟩
 |k :: k1,k2,xs,ys,r,h=>by
  rw [List.cons_append] at h
  obtain ⟨l1,l2,-⟩:=peqs_get _ _ _ _ h
  cases xs with
  |nil=>simp at l1
  |cons p xs=>
   cases ys with
   |nil=>simp at l2
   |cons q ys=>
    cases p with
    |val a=>cases q with
     |val b=>
      simp only [peqs] at h
      split at h
      ·rename_i ra rb h1 h2
       cases h
       obtain ⟨r1,r2,e1,e2,rfl⟩:=peqs_app k1 k2 xs ys rb h2
       refine ⟨ra && r1,r2,by simp [peqs,h1,e1],by simpa using e2,by rw [Bool.and_assoc]⟩
      ·cases h
     |_=>simp [peqs] at h
    |_=>simp [peqs] at h
theorem peqs_one {k:SK} {xs ys:List PV} {r:Bool} (h:peqs [k] xs ys=some r):∃a b,xs = [.val a]∧ys = [.val b]∧veq k a b=some r:=by
 obtain ⟨l1,l2,-⟩:=peqs_get _ _ _ _ h
 obtain ⟨p,rfl⟩:=List.length_eq_one_iff.1 l1
 obtain ⟨q,rfl⟩:=List.length_eq_one_iff.1 l2
 cases p with
 |val a=>cases q with
  |val b=>
   simp only [peqs] at h
   split at h
   ·rename_i ra rb h1 h2
    simp at h2
    subst h2
    simp at h
    subst h
    exact ⟨a,b,rfl,rfl,h1⟩
   ·cases h
  |_=>simp [peqs] at h
 |_=>simp [peqs] at h
def cellsVal (agg:Bool) (us:List Value):Value:=if agg then .agg us.toArray else us.headD undef
theorem part_run {t:TypeId} {i:TypeInfo} {d:TypeDesc} (h1:P.info? t=some i) (h2:P.underlying t=some d) {us:List Value} {off:Nat} (hle:off+i.size≤us.length) (hpos:aggD d=false→0 < i.size):(part t us.toArray off).run P w = .ok (cellsVal (aggD d) ((us.drop off).take i.size)) w:=by
 unfold part
 simp only [Sem.run_bind,run_isAgg h2,Result.andThen_ok]
 cases hd:aggD d with
 |true=>
  simp only [if_true,Sem.run_bind,run_size h1,Result.andThen_ok,Sem.run_pure,cellsVal]
  congr 2
  apply Array.ext'
  simp [List.take_drop,Nat.add_comm]
 |false=>
  have hp:=hpos hd
  simp only [Bool.false_eq_true,if_false,cellsVal]
  have hlt:off < us.length:=by omega
  rw [List.getElem?_toArray,List.getElem?_eq_getElem hlt]
  have:((us.drop off).take i.size).headD undef=us[off]:=by
   rw [List.headD_eq_head?_getD,List.head?_take,if_neg (by omega),List.head?_drop,List.getElem?_eq_getElem hlt];rfl
  rw [this];rfl
theorem repL_dt {xs:List PV} {us:List Value} (h:RepL Φ μ xs us) (off n:Nat):RepL Φ μ ((xs.drop off).take n) ((us.drop off).take n):=by
 refine ⟨by simp [h.1],fun j c u h1 h2=>?_⟩
 rw [List.getElem?_take] at h1 h2
 split at h1
 ·rename_i hj
  rw [if_pos hj,List.getElem?_drop] at h2
  rw [List.getElem?_drop] at h1
  exact h.2 _ c u h1 h2
 ·cases h1
def eqsFs (P:Program) (d n:Nat) (l:List Field):Option (Nat×List SK):=l.foldr (fun f acc=>match acc with
      |some (off,l)=>if f.name ≠ "_" then match eqsD P d f.type with
       |some m=>if f.offset+m.length=off then some (f.offset,m ++ l) else none
       |none=>none else none
      |none=>none) (some (n,[]))
theorem eqsFs_cons {d n:Nat} {f:Field} {l:List Field} {o:Nat} {ks:List SK} (h:eqsFs P d n (f :: l)=some (o,ks)):∃off ls m,eqsFs P d n l=some (off,ls)∧f.name ≠ "_"∧eqsD P d f.type=some m∧f.offset+m.length=off∧o=f.offset∧ks=m ++ ls:=by
 simp only [eqsFs,List.foldr_cons] at h
 split at h
 ·rename_i off ls hacc
  split at h
  ·rename_i hn
   split at h
   ·rename_i m hm
    split at h
    ·rename_i ho
     simp only [Option.some.injEq,Prod.mk.injEq] at h
     exact ⟨off,ls,m,hacc,hn,hm,ho,h.1.symm,h.2.symm⟩
    ·cases h
   ·cases h
  ·cases h
 ·cases h
theorem eqD_size:∀(d:Nat) (t:TypeId) (ks:List SK),eqsD P d t=some ks→∃i dd,P.info? t=some i∧P.underlying t=some dd∧i.size=ks.length∧(aggD dd=false→∃k,ks = [k]∧skOf P t=some k)
 |0,t,ks,h=>by simp [eqsD] at h
 |d+1,t,ks,h=>by
  simp only [eqsD] at h
  split at h
  ·rename_i k hk
   cases h
   have hk0:=hk
   unfold skOf at hk
   split at hk
   ·rename_i i hu hi
    split at hk
    ·rename_i h1;exact ⟨i,_,hi,hu,by simpa using h1,fun _=>⟨k,rfl,hk0⟩⟩
    ·cases hk
   ·rename_i i hu hi
    split at hk
    ·rename_i h1;exact ⟨i,_,hi,hu,by simpa using h1,fun _=>⟨k,rfl,hk0⟩⟩
    ·cases hk
   ·rename_i i hu hi
    split at hk
    ·rename_i h1;exact ⟨i,_,hi,hu,by simpa using h1,fun _=>⟨k,rfl,hk0⟩⟩
    ·cases hk
   ·cases hk
  ·split at h
   ·rename_i fs i hu hi
    split at h
    ·split at h
     ·split at h
      ·rename_i hl;cases h;exact ⟨i,_,hi,hu,hl.symm,fun e=>by cases e⟩
      ·cases h
     ·cases h
    ·cases h
   ·rename_i n e i hu hi
    split at h
    ·rename_i l ie hl hie
     split at h
     ·rename_i hc
      cases h
      exact ⟨i,_,hi,hu,by rw [hc.2,←hc.1];simp,fun e=>by cases e⟩
     ·cases h
    ·cases h
   ·cases h
theorem peqs_flat {l:List SK} : ∀(n:Nat) (xs ys:List PV) (r:Bool),peqs ((List.replicate n l).flatten) xs ys=some r→∃c:Nat→Bool,r=(List.range' 0 n).all c∧∀j,j < n→peqs l ((xs.drop (j * l.length)).take l.length) ((ys.drop (j * l.length)).take l.length)=some (c j):=by
 intro n
 induction n with
 |zero=>
  intro xs ys r h
  obtain ⟨l1,l2,-⟩:=peqs_get _ _ _ _ h
  simp at l1 l2
  subst l1 l2
  simp [peqs] at h
  exact ⟨fun _=>true,by simp [←h],fun j hj=>by omega⟩
 |succ n ih=>
  intro xs ys r h
  rw [List.replicate_succ,List.flatten_cons] at h
  obtain ⟨r1,r2,h1,h2,rfl⟩:=peqs_app _ _ _ _ _ h
  obtain ⟨c,rfl,hc⟩:=ih _ _ _ h2
  refine ⟨fun j=>if j=0 then r1 else c (j - 1),?_,fun j hj=>?_⟩
  ·rw [List.range'_succ,List.all_cons]
   simp only [if_true]
   congr 1
   rw [Bool.eq_iff_iff,List.all_eq_true,List.all_eq_true]
   constructor
   ·intro hh x hx
    rw [List.mem_range'_1] at hx
    rw [if_neg (by omega)]
    exact hh (x - 1) (by rw [List.mem_range'_1];omega)
   ·intro hh x hx
    rw [List.mem_range'_1] at hx
    have:=hh (x+1) (by rw [List.mem_range'_1];omega)
    rw [if_neg (by omega)] at this
    exact this
  ·cases j with
   |zero=>simpa using h1
   |succ j=>
    have:=hc j (by omega)
    rw [List.drop_drop,List.drop_drop] at this
    simp only [Nat.succ_ne_zero,if_false,Nat.add_sub_cancel]
    rw [Nat.succ_mul,Nat.add_comm]
    exact this
theorem eqD_sound:∀(d:Nat) (t:TypeId) (ks:List SK),eqsD P d t=some ks→∀(xs ys:List PV) (us vs:List Value) (r:Bool),peqs ks xs ys=some r→RepL Φ μ xs us→RepL Φ μ ys vs→∀dd,P.underlying t=some dd→∀n,d≤n →
  (Op.equalIn n t (cellsVal (aggD dd) us) (cellsVal (aggD dd) vs)).run P w = .ok r w
 |0,t,ks,h=>by simp [eqsD] at h
 |d+1,t,ks,h=>by
  intro xs ys us vs r hr hx hy dd hdd n hn
  obtain ⟨n,rfl⟩:∃m,n=m+1:=⟨n - 1,by omega⟩
  have hdn:d≤n:=by omega
  obtain ⟨i0,dd0,hi0,hu0,hs0,hsc⟩:=eqD_size _ _ _ h
  rw [hdd] at hu0;cases hu0
  cases hag:aggD dd with
  |false=>
   obtain ⟨k,rfl,hsk⟩:=hsc hag
   obtain ⟨a,b,rfl,rfl,hv⟩:=peqs_one hr
   obtain ⟨u,hu,hru⟩:=hx.get (j:=0) rfl
   obtain ⟨v,hv',hrv⟩:=hy.get (j:=0) rfl
   obtain ⟨rfl,-⟩:=hru.val_inv
   obtain ⟨rfl,-⟩:=hrv.val_inv
   have e1:us.headD undef=u:=by rw [List.headD_eq_head?_getD,List.head?_eq_getElem?,hu];rfl
   have e2:vs.headD undef=v:=by rw [List.headD_eq_head?_getD,List.head?_eq_getElem?,hv'];rfl
   simp only [cellsVal,Bool.false_eq_true,if_false,e1,e2]
   exact run_veq hsk hv n
  |true=>
   simp only [cellsVal,if_true]
   simp only [eqsD] at h
   split at h
   ·rename_i k hk
    exfalso
    unfold skOf at hk
    rw [hdd] at hk
    cases dd<;>simp_all [aggD]
   ·obtain ⟨lx,ly,-⟩:=peqs_get _ _ _ _ hr
    have lus:us.length=ks.length:=by rw [hx.1,lx]
    have lvs:vs.length=ks.length:=by rw [hy.1,ly]
    split at h
    ·rename_i fs i hu hi
     rw [hdd] at hu;cases hu
     split at h
     case isFalse=>cases h
     rename_i hst
     split at h
     case h_2=>cases h
     rename_i l hl
     split at h
     case isFalse=>cases h
     cases h
     rename_i hls
     have hfs:eqsFs P d i.size fs.toList=some (0,ks):=hl
     have hki:ks.length=i.size:=hls
     -- field by field
     have key:∀(l:List Field) (o:Nat) (kk:List SK) (s:Bool),eqsFs P d i.size l=some (o,kk)→peqs kk (xs.drop o) (ys.drop o)=some s→o+kk.length=i.size →
       ∃c:Field→Bool,s=l.all c∧∀f∈l,f.name ≠ "_"∧(∀m,d≤m→∃u v,(part f.type us.toArray f.offset).run P w = .ok u w∧(part f.type vs.toArray f.offset).run P w = .ok v w∧(Op.equalIn m f.type u v).run P w = .ok (c f) w):=by
      intro l
      induction l with
      |nil=>
       intro o kk s h1 h2 h3
       simp [eqsFs] at h1
       obtain ⟨rfl,rfl⟩:=h1
       obtain ⟨q1,q2,-⟩:=peqs_get _ _ _ _ h2
       have e1:xs.drop i.size = []:=List.eq_nil_of_length_eq_zero q1
       have e2:ys.drop i.size = []:=List.eq_nil_of_length_eq_zero q2
       rw [e1,e2] at h2
       simp [peqs] at h2
       exact ⟨fun _=>true,by simp [←h2],fun f hf=>by cases hf⟩
      |cons f l ih=>
       intro o kk s h1 h2 h3
       obtain ⟨off,ls,m,g1,g2,g3,g4,rfl,rfl⟩:=eqsFs_cons h1
       obtain ⟨s1,s2,p1,p2,rfl⟩:=peqs_app _ _ _ _ _ h2
       rw [List.drop_drop,List.drop_drop,g4] at p2
       have hlen3:off+ls.length=i.size:=by rw [List.length_append] at h3;omega
       obtain ⟨c,rfl,hc⟩:=ih off ls s2 g1 p2 hlen3
       -- the same answer wherever the same field stands
       obtain ⟨fi,fd,q1,q2,q3,q4⟩:=eqD_size d f.type m g3
       have hfit:f.offset+fi.size≤us.length∧f.offset+fi.size≤vs.length:=by rw [lus,lvs,hki];omega
       have hpos:aggD fd=false→0 < fi.size:=fun e=>by obtain ⟨k,rfl,-⟩:=q4 e;rw [q3];simp
       have main:∀mm,d≤mm→∃u v,(part f.type us.toArray f.offset).run P w = .ok u w∧(part f.type vs.toArray f.offset).run P w = .ok v w∧(Op.equalIn mm f.type u v).run P w = .ok s1 w:=by
        intro mm hmm
        refine ⟨_,_,part_run q1 q2 hfit.1 hpos,part_run q1 q2 hfit.2 hpos,?_⟩
        rw [q3]
        exact eqD_sound d f.type m g3 _ _ _ _ s1 p1 (repL_dt hx _ _) (repL_dt hy _ _) fd q2 mm hmm
       refine ⟨fun g=>if g.offset=f.offset∧g.type=f.type then s1 else c g,?_,fun g hg=>?_⟩
       ·rw [List.all_cons]
        simp only [and_self,if_true]
        congr 1
        rw [Bool.eq_iff_iff,List.all_eq_true,List.all_eq_true]
        have same:∀g∈l,g.offset=f.offset∧g.type=f.type→c g=s1:=by
         intro g hg ⟨e1,e2⟩
         obtain ⟨-,hg2⟩:=hc g hg
         obtain ⟨u,v,k1,k2,k3⟩:=hg2 d (Nat.le_refl _)
         obtain ⟨u',v',k4,k5,k6⟩:=main d (Nat.le_refl _)
         rw [e1,e2] at k1 k2
         rw [e2] at k3
         rw [k4] at k1;cases k1
         rw [k5] at k2;cases k2
         rw [k6] at k3;cases k3;rfl
        constructor
        ·intro hh g hg
         split
         ·rename_i e;rw [←same g hg e];exact hh g hg
         ·exact hh g hg
        ·intro hh g hg
         have:=hh g hg
         split at this
         ·rename_i e;rw [same g hg e];exact this
         ·exact this
       ·by_cases e:g.offset=f.offset∧g.type=f.type
        ·simp only [e,and_self,if_true]
         rcases List.mem_cons.1 hg with rfl|hg
         ·exact ⟨g2,main⟩
         ·exact ⟨(hc g hg).1,main⟩
        ·simp only [e,if_false]
         rcases List.mem_cons.1 hg with rfl|hg
         ·exact absurd ⟨rfl,rfl⟩ e
         ·exact hc g hg
     obtain ⟨c,rfl,hc⟩:=key fs.toList 0 ks r hfs (by simpa using hr) (by omega)
     rw [Op.equalIn]
     simp only [Sem.run_bind,run_underlying hdd,Result.andThen_ok,run_program,hst,Bool.false_eq_true,if_false]
     rw [←Array.forIn_toList,run_forIn_eq _ c fs.toList ?_]
     ·cases hca:fs.toList.all c<;>simp
     ·intro f hf s
      obtain ⟨hn1,hn2⟩:=hc f hf
      obtain ⟨u,v,k1,k2,k3⟩:=hn2 n hdn
      simp only [hn1,ne_eq,not_false_eq_true,if_true,Sem.run_bind,k1,k2,Result.andThen_ok,k3]
      cases c f<;>simp
    ·rename_i len e i hu hi
     rw [hdd] at hu;cases hu
     split at h
     case h_2=>cases h
     rename_i l ie hl hie
     split at h
     case isFalse=>cases h
     rename_i hcc
     cases h
     obtain ⟨c,rfl,hc⟩:=peqs_flat len xs ys r hr
     obtain ⟨fi,fd,q1,q2,q3,q4⟩:=eqD_size d e l hl
     rw [hie] at q1;cases q1
     rw [Op.equalIn]
     simp only [Sem.run_bind,run_underlying hdd,Result.andThen_ok,run_size hie]
     have hsz:Std.Legacy.Range.size [:len]=len:=by simp [Std.Legacy.Range.size]
     rw [Std.Legacy.Range.forIn_eq_forIn_range',run_forIn_eq _ c _ ?_]
     ·rw [hsz]
      cases hca:(List.range' 0 len).all c<;>simp_all
     ·intro j hj s
      have hjn:j < len:=by simp [Std.Legacy.Range.size] at hj;omega
      have hfl:(List.replicate len l).flatten.length=len * l.length:=by simp
      have hle:j * ie.size+ie.size≤len * l.length:=by
       rw [q3,←Nat.succ_mul];exact Nat.mul_le_mul_right _ hjn
      have hpos:aggD fd=false→0 < ie.size:=fun e=>by obtain ⟨k,rfl,-⟩:=q4 e;rw [q3];simp
      have k1:=part_run (w:=w) (us:=us) (off:=j * ie.size) hie q2 (by rw [lus,hfl];exact hle) hpos
      have k2:=part_run (w:=w) (us:=vs) (off:=j * ie.size) hie q2 (by rw [lvs,hfl];exact hle) hpos
      have hcj:=hc j hjn
      rw [←q3] at hcj
      have k3:=eqD_sound d e l hl _ _ _ _ (c j) hcj (repL_dt hx _ _) (repL_dt hy _ _) fd q2 n hdn
      simp only [Sem.run_bind,k1,k2,Result.andThen_ok,k3]
      cases c j<;>simp
    ·cases h
theorem agg_eq_sound {t:TypeId} {xs ys:List PV} {us vs:List Value} (hx:RepL Φ μ xs us) (hy:RepL Φ μ ys vs) {r:Bool} (hne:eqsOf P t ≠ []) (h:peqs (eqsOf P t) xs ys=some r):(Op.equal t (.agg us.toArray) (.agg vs.toArray)).run P w = .ok r w∧P.eqGuardType P.depth t=false:=by
 have heq:=hne
 unfold eqsOf at hne
 split at hne
 ·rename_i fs hu
  split at hne
  ·rename_i hc
   refine ⟨?_,hc⟩
   have he:eqsOf P t=(eqsD P 6 t).getD []:=by unfold eqsOf;rw [hu];simp only [hc,if_true]
   cases hm:eqsD P 6 t with
   |none=>rw [hm] at he;rw [he] at heq;exact absurd rfl heq
   |some ks=>
    rw [hm] at he
    rw [he] at h
    have:=eqD_sound (w:=w) 6 t ks hm xs ys us vs r h hx hy _ hu Op.maxDepth (by decide)
    exact this
  ·exact absurd rfl hne
 ·rename_i n e hu
  split at hne
  ·rename_i hc
   refine ⟨?_,hc⟩
   have he:eqsOf P t=(eqsD P 6 t).getD []:=by unfold eqsOf;rw [hu];simp only [hc,if_true]
   cases hm:eqsD P 6 t with
   |none=>rw [hm] at he;rw [he] at heq;exact absurd rfl heq
   |some ks=>
    rw [hm] at he
    rw [he] at h
    have:=eqD_sound (w:=w) 6 t ks hm xs ys us vs r h hx hy _ hu Op.maxDepth (by decide)
    exact this
  ·exact absurd rfl hne
 ·exact absurd rfl hne
theorem pval_sound (hT:T=tabOf P) (h:RelG Φ0 W M Φ μ ω σ a w) (o:Oper) {p:PV} (hp:pval T σ o.op=some p) :
  ∃v,(execOp a.eval o).run P w = .ok (.value v) w∧Rep Φ μ p v∧p.ownB=false:=by
 obtain ⟨dst,op,ty,pos,after,guard⟩:=o
 simp only at hp
 unfold pval at hp
 split at hp
 ·rename_i x
  cases hp
  exact ⟨a.eval x,by simp [execOp],h.ev x,pev_own σ x⟩
 ·rename_i c x y
  split at hp
  ·rename_i b hb
   cases hp
   have hc:=h.ev c
   rw [hb] at hc
   obtain ⟨hc,-⟩:=hc.val_inv
   cases b
   ·exact ⟨a.eval y,by simp [execOp,hc,asBool],h.ev y,pev_own σ y⟩
   ·exact ⟨a.eval x,by simp [execOp,hc,asBool],h.ev x,pev_own σ x⟩
  ·cases hp
 ·rename_i t x
  split at hp
  ·rename_i ti ht
   obtain ⟨u,r1,r2,r3⟩:=h.load (P:=P) (tab_at hT ht) (h.ev x) hp
   exact ⟨u,by simp [execOp,r1],r2,r3⟩
  ·cases hp
 ·rename_i s x f
  split at hp
  ·rename_i ti ht
   split at hp
   ·rename_i l hl
    obtain ⟨u,r1,r2,r3⟩:=field_sound (P:=P) (w:=w) (tab_at hT ht) hl (h.ev x) hp
    exact ⟨u,by simp [execOp,r1],r2,r3⟩
   ·cases hp
  ·cases hp
 ·rename_i s x f
  split at hp
  ·rename_i ti ht
   unfold pfieldOf at hp
   split at hp
   ·rename_i cs hcs
    split at hp
    ·rename_i l hl
     split at hp
     ·rename_i off size agg hlf
      obtain ⟨fs,hu,-,hget⟩:=struct_get (tab_at hT ht) hl
      obtain ⟨fd,i,d,e1,e2,e3,e4,e5,e6⟩:=hget f _ _ _ hlf
      have hx:=h.ev x
      rw [hcs] at hx
      obtain ⟨us,hv,hr⟩:=hx.agg_inv
      subst e4 e6
      obtain ⟨v,r1,r2,r3⟩:=asVal_part (P:=P) (w:=w) hr e3 e5 hp
      refine ⟨v,?_,r2,r3⟩
      simp [execOp,Instr.field,run_underlying hu,e1,hv,asAgg,e2,r1]
     ·cases hp
    ·cases hp
   ·cases hp
  ·cases hp
 ·rename_i t x i
  split at hp
  ·rename_i ti ht
   obtain ⟨u,r1,r2,r3⟩:=index_sound (P:=P) (w:=w) (tab_at hT ht) (h.ev x) (h.ev i) hp
   exact ⟨u,by simp [execOp,r1],r2,r3⟩
  ·cases hp
 ·rename_i t x i
  split at hp
  ·rename_i ti ht
   have hx:=h.ev x
   have hi:=h.ev i
   unfold pindexV at hp
   split at hp
   ·rename_i s ik n e1 e2
    rw [e1] at hx
    rw [e2] at hi
    obtain ⟨hx,-⟩:=hx.val_inv
    obtain ⟨hi,-⟩:=hi.val_inv
    split at hp
    ·rename_i hk
     split at hp
     ·rename_i h0
      split at hp
      ·rename_i b hb
       cases hp
       exact ⟨.int .u8 b.toNat,by simp [execOp,Instr.index,hx,hi,asIntOf,run_underlying (kind_str (tab_at hT ht) hk),h0,hb], .val _ rfl,rfl⟩
      ·cases hp
     ·cases hp
    ·cases hp
   ·rename_i cs ik n e1 e2
    rw [e1] at hx
    rw [e2] at hi
    obtain ⟨us,hv,hr⟩:=hx.agg_inv
    obtain ⟨hi,-⟩:=hi.val_inv
    split at hp
    ·rename_i len e k ag hk
     split at hp
     ·rename_i hc
      obtain ⟨hu,i',d',e3,e4,e5,e6⟩:=arr_get (tab_at hT ht) hk
      subst e4 e6
      obtain ⟨v,r1,r2,r3⟩:=asVal_part (P:=P) (w:=w) hr e3 e5 hp
      exact ⟨v,by simp [execOp,Instr.index,hv,hi,asIntOf,run_underlying hu,hc.1,hc.2,run_size e3,r1],r2,r3⟩
     ·cases hp
    ·cases hp
   ·cases hp
  ·cases hp
 ·rename_i op t x y yt
  split at hp
  ·rename_i u v e1 e2
   have hx:=h.ev x
   have hy:=h.ev y
   rw [e1] at hx
   rw [e2] at hy
   obtain ⟨hx,-⟩:=hx.val_inv
   obtain ⟨hy,-⟩:=hy.val_inv
   split at hp
   ·rename_i r hr
    cases hp
    obtain ⟨r1,r2⟩:=pbin_sound (P:=P) (w:=w) (t:=t) (x:=x) (y:=y) hr
    exact ⟨r,by simp only [execOp,Sem.run_bind,hx,hy] at r1 ⊢; rw [r1];rfl, .val _ r2,rfl⟩
   ·split at hp
    ·rename_i ti ht
     obtain ⟨r,hr,rfl⟩:=Option.map_eq_some_iff.1 hp
     obtain ⟨r1,r2⟩:=pbinB_sound (P:=P) (w:=w) (x:=x) (y:=y) (tab_at hT ht) hr
     exact ⟨r,by simp only [execOp,Sem.run_bind,hx,hy] at r1 ⊢; rw [r1];rfl, .val _ r2,rfl⟩
    ·cases hp
  ·rename_i xs ys e1 e2
   have hx:=h.ev x
   have hy:=h.ev y
   rw [e1] at hx
   rw [e2] at hy
   obtain ⟨us,hx,hxr⟩:=hx.agg_inv
   obtain ⟨vs,hy,hyr⟩:=hy.agg_inv
   split at hp
   ·rename_i ti ht
    obtain ⟨r,hr,rfl⟩:=Option.map_eq_some_iff.1 hp
    obtain ⟨i,d,z,-,-,-,-,-,g6⟩:=tyI_parts (tab_at hT ht)
    have heqs:ti.eqs=eqsOf P t:=by rw [g6]
    rw [heqs] at hr
    unfold pbinA at hr
    split at hr
    ·cases hr
    ·rename_i k ks hks
     have hne:eqsOf P t ≠ []:=by rw [hks];simp
     split at hr
     ·obtain ⟨b,hb,rfl⟩:=Option.map_eq_some_iff.1 hr
      obtain ⟨r1,r2⟩:=agg_eq_sound (w:=w) hxr hyr hne hb
      refine ⟨.bool b,?_, .val _ rfl,rfl⟩
      have hgd:(eqGuard .eql t x y (.agg us.toArray) (.agg vs.toArray)).run P w = .ok () w:=by simp [eqGuard,r2]
      simp only [execOp,Sem.run_bind,hx,hy,hgd,Result.andThen_ok,binOp,r1]
      rfl
     ·obtain ⟨b,hb,rfl⟩:=Option.map_eq_some_iff.1 hr
      obtain ⟨r1,r2⟩:=agg_eq_sound (w:=w) hxr hyr hne hb
      refine ⟨.bool !b,?_, .val _ rfl,rfl⟩
      have hgd:(eqGuard .neq t x y (.agg us.toArray) (.agg vs.toArray)).run P w = .ok () w:=by simp [eqGuard,r2]
      simp only [execOp,Sem.run_bind,hx,hy,hgd,Result.andThen_ok,binOp,r1]
      rfl
     ·cases hr
   ·cases hp
  ·cases hp
 ·rename_i op t x
  split at hp
  ·rename_i u e1
   have hx:=h.ev x
   rw [e1] at hx
   obtain ⟨hx,-⟩:=hx.val_inv
   obtain ⟨r,hr,rfl⟩:=Option.map_eq_some_iff.1 hp
   obtain ⟨r1,r2⟩:=pun_sound (P:=P) (w:=w) hr
   exact ⟨r,by simp [execOp,hx,r1], .val _ r2,rfl⟩
  ·cases hp
 ·rename_i s d x
  split at hp
  ·rename_i si di hs hd
   have hx:=h.ev x
   split at hp
   case h_2=>
    unfold pconvS at hp
    split at hp
    ·rename_i n k cs own e1
     rw [e1] at hx
     split at hp
     ·rename_i e kk by_ zr hk1 hk2
      split at hp
      ·rename_i ei he
       split at hp
       ·rename_i hke
        split at hp
        ·rename_i hk1'
         subst hk1'
         obtain ⟨bs,hbs,rfl⟩:=Option.map_eq_some_iff.1 hp
         obtain ⟨hu,-⟩:=slice_get (tab_at hT hs) hk1
         have hd':=kind_str (tab_at hT hd) hk2
         have he':=kind_int (tab_at hT he) hke
         obtain ⟨ad,b,off,cap,us,hv,q1,q2,q3,q4,q5,q6⟩:=hx.sl_inv
         have hcs:=bytesOf_get _ _ hbs
         subst hcs
         simp only [List.length_map,Nat.mul_one] at q3
         refine ⟨.string (strI bs),?_, .val _ rfl,rfl⟩
         simp only [execOp,Sem.run_bind,hv]
         rw [run_convert_bytes_string w s d e ad n cap hu he' hd']
         by_cases hn:0 < n
         ·obtain rfl:=q4 hn
          rw [run_bytesToString w ⟨b,off,none⟩ n cap bs (by
           have:=run_loadCells_list (P:=P) (w:=w) ⟨b,off,none⟩ (bs.map (Value.int .u8)) (by
            intro j u hj
            rw [List.getElem?_map] at hj
            obtain ⟨z,hz,rfl⟩:=Option.map_eq_some_iff.1 hj
            have hjl:j < bs.length:=(List.getElem?_eq_some_iff.1 hz).1
            have hr:=q6 j (.val (.int .u8 z)) (by simp [hz])
            rw [Addr.add_lit,h.imm _ _ _ (q5 j (by simpa using hjl)),hr.val_inv.1])
           rw [List.length_map,q3] at this
           first|exact this|simpa using this)]
          rfl
         ·have hb0:bs = []:=List.eq_nil_of_length_eq_zero (by omega)
          have hn0:n=0:=by omega
          subst hb0
          cases ad with
          |none=>simp [Conv.bytesToString,strI]
          |some ad=>
           rw [run_bytesToString w ad n cap [] (by subst hn0;first|rfl|simp [loadCells,loadCellsFrom])]
           rfl
        ·cases hp
       ·cases hp
      ·cases hp
     ·cases hp
    ·cases hp
   rename_i pp hpp
   simp only [Option.some.injEq] at hp
   subst hp
   have hp:=hpp
   unfold pconv at hp
   split at hp
   ·rename_i ik n e1
    rw [e1] at hx
    obtain ⟨hx,-⟩:=hx.val_inv
    split at hp
    ·rename_i k hk
     cases hp
     have hu:=kind_int (tab_at hT hd) hk
     obtain ⟨i1,d1,z1,-,g2,-⟩:=tyI_parts (tab_at hT hs)
     refine ⟨.int k (k.wrap n),?_, .val _ rfl,rfl⟩
     simp only [execOp,convert,Sem.run_bind,run_underlying g2,run_underlying hu,Result.andThen_ok,hx]
     simp [Conv.intToInt]
    ·cases hp
   ·rename_i st e1
    rw [e1] at hx
    obtain ⟨hx,-⟩:=hx.val_inv
    split at hp
    ·rename_i hk1 hk2
     cases hp
     have hu:=kind_str (tab_at hT hd) hk2
     have hu1:=kind_str (tab_at hT hs) hk1
     refine ⟨.string st,?_, .val _ rfl,rfl⟩
     simp only [execOp,convert,Sem.run_bind,run_underlying hu1,run_underlying hu,Result.andThen_ok,hx]
     simp
    ·cases hp
   ·cases hp
  ·cases hp
 ·rename_i t x lo hi mx
  split at hp
  case h_2=>cases hp
  split at hp
  ·rename_i ti ht
   have ho:∀y:Option Operand,RepO Φ μ (y.map (pev σ)) (y.map a.eval):=by
    intro y
    cases y with
    |none=>trivial
    |some y=>exact h.ev y
   obtain ⟨u,r1,r2,r3⟩:=slice_sound (P:=P) (w:=w) (tab_at hT ht) (h.ev x) (ho lo) (ho hi) hp
   exact ⟨u,by simp [execOp,r1],r2,r3⟩
  ·cases hp
 ·rename_i x i
  split at hp
  ·rename_i vs e1
   have hx:=h.ev x
   rw [e1] at hx
   obtain ⟨us,hv,hr⟩:=hx.tup_inv
   obtain ⟨c,hc,rfl⟩:=Option.map_eq_some_iff.1 hp
   obtain ⟨u,hu,hru⟩:=hr.get hc
   exact ⟨u,by simp [execOp,Instr.extract,hv,hu],hru.bare,PV.bare_own _⟩
  ·cases hp
 ·rename_i fn first caps
  split at hp
  case h_2=>cases hp
  rename_i f
  split at hp
  case isFalse=>cases hp
  rename_i hblt
  have hlt:f < 1000000:=by simpa [Nat.blt_eq] using hblt
  have hrl:∀l:Array Operand,RepL Φ μ (l.toList.map (pev σ)) (l.toList.map a.eval):=by
   intro l
   refine ⟨by simp,fun j c u h1 h2=>?_⟩
   rw [List.getElem?_map] at h1 h2
   obtain ⟨x,hx,rfl⟩:=Option.map_eq_some_iff.1 h1
   rw [hx] at h2
   simp at h2
   subst h2
   exact h.ev x
  have harr:∀l:Array Operand,(l.toList.map a.eval).toArray=l.map a.eval:=fun l=>by rw [←Array.toList_map,Array.toArray_toList]
  split at hp
  ·rename_i hfirst
   obtain rfl:first = #[]:=by
    have:first.toList = []:=by simpa using hfirst
    simpa using this
   cases hp
   refine ⟨.func (.func f) #[] (caps.map a.eval),by simp [execOp,Instr.makeFunc],?_,rfl⟩
   have h1:=(hrl caps).fn f
   rw [harr] at h1
   unfold fnV at h1
   rw [if_pos hlt] at h1
   exact h1
  ·split at hp
   ·rename_i hcaps
    obtain rfl:caps = #[]:=by
     have:caps.toList = []:=by simpa using hcaps
     simpa using this
    cases hp
    refine ⟨.func (.func f) (first.map a.eval) #[],by simp [execOp,Instr.makeFunc],?_,rfl⟩
    have h1:=(hrl first).fn (f+1000000)
    rw [harr] at h1
    unfold fnV at h1
    rw [if_neg (by omega),show unB (f+1000000)=f from Nat.add_sub_cancel ..] at h1
    exact h1
   ·cases hp
 ·rename_i t parts
  split at hp
  ·rename_i ti ht
   have hty:=tab_at hT ht
   obtain ⟨i,d,z,g1,g2,g3,g4,g5,g6⟩:=tyI_parts hty
   have hz:CellsR Φ μ ti.zero z.cells.toList:=by
    rw [g6]
    refine ⟨repL_pv0 _,g5,fun c hc=>?_⟩
    obtain ⟨v,-,rfl⟩:=List.mem_map.1 hc
    exact pv0_own v
   have hparts:∀(j:Nat) i p i' v,(parts.toList.map fun x=>(x.1,pev σ x.2))[j]? = some (i,p)→(parts.toList.map fun x=>(x.1,a.eval x.2))[j]? = some (i',v)→i' = i∧Rep Φ μ p v:=by
    intro j i p i' v h1 h2
    rw [List.getElem?_map] at h1 h2
    obtain ⟨x,hx,e⟩:=Option.map_eq_some_iff.1 h1
    rw [hx] at h2
    simp at h2 e
    obtain ⟨rfl,rfl⟩:=e
    obtain ⟨rfl,rfl⟩:=h2
    exact ⟨rfl,h.ev x.2⟩
   have hzv:(zeroValue t).run P w = .ok z w:=by simp [zeroValue,typeInfo,g1,g3]
   unfold pbuild at hp
   split at hp
   ·rename_i l hl
    obtain ⟨fs,hu,hlen,hget⟩:=struct_get hty hl
    obtain ⟨out,ho,rfl⟩:=Option.map_eq_some_iff.1 hp
    have hmap:(fs.mapM fun f=>(do pure (f.offset,←sizeOf f.type):Sem (Nat×Nat))).run P w = .ok (l.map fun x=>(x.1,x.2.1)).toArray w:=by
     have e1:∀(j:Nat) (fd:Field),fs.toList[j]? = some fd→∃x:Nat×Nat×Bool,l[j]? = some x∧((do pure (fd.offset,←sizeOf fd.type):Sem (Nat×Nat))).run P w = .ok (x.1,x.2.1) w:=by
      intro j fd hj
      have hjl:j < l.length:=by rw [hlen];simpa using (List.getElem?_eq_some_iff.1 hj).1
      obtain ⟨fd',i',d',k1,k2,k3,k4,-,-⟩:=hget j _ _ _ (show l[j]? = some (l[j].1,l[j].2.1,l[j].2.2) by simp [hjl])
      have:fd' = fd:=by
       have h3:fs.toList[j]? = some fd':=by simpa using k1
       rw [hj] at h3;simpa using h3.symm
      subst this
      exact ⟨l[j],by simp [hjl],by simp [run_size k3,k2,k4]⟩
     rw [Array.mapM_eq_mapM_toList,Sem.run_map,run_mapM_list (P:=P) (w:=w) _ _ (l.map fun x=>(x.1,x.2.1)) (by simp [hlen]) (by
      intro j fd y hj hy
      obtain ⟨x,hx,hr⟩:=e1 j fd hj
      rw [List.getElem?_map,hx] at hy
      simp at hy
      subst hy
      exact hr)]
     rfl
    obtain ⟨cur',r1,r2⟩:=fill_sound (fun (i:Nat)=>(l[i]?).map fun (x:Nat×Nat×Bool)=>(x.1,x.2.1)) _ (parts.toList.map fun (x:Nat×Operand)=>(x.1,a.eval x.2)) _ z.cells _ hz (by simp) hparts ho
    refine ⟨.agg cur',?_,by simpa using r2.1.agg,rfl⟩
    simp only [execOp,Instr.build,Sem.run_bind,hzv,Result.andThen_ok,run_underlying hu,hmap]
    have e:(fun (i:Nat)=>(l.map fun (x:Nat×Nat×Bool)=>(x.1,x.2.1)).toArray[i]?)=(fun (i:Nat)=>(l[i]?).map fun (x:Nat×Nat×Bool)=>(x.1,x.2.1)):=by
     funext i;simp
    simp only [e,Array.toList_map,r1]
    rfl
   ·rename_i n e k ag hk
    obtain ⟨hu,i',d',e3,e4,e5,e6⟩:=arr_get hty hk
    obtain ⟨out,ho,rfl⟩:=Option.map_eq_some_iff.1 hp
    obtain ⟨cur',r1,r2⟩:=fill_sound (fun i=>some (i * k,k)) _ (parts.toList.map fun (x:Nat×Operand)=>(x.1,a.eval x.2)) _ z.cells _ hz (by simp) hparts ho
    refine ⟨.agg cur',?_,by simpa using r2.1.agg,rfl⟩
    simp only [execOp,Instr.build,Sem.run_bind,hzv,Result.andThen_ok,run_underlying hu,run_size e3,e4,Array.toList_map,r1]
    rfl
   ·cases hp
  ·cases hp
 ·rename_i c
  obtain ⟨callee,args,argTypes⟩:=c
  simp only at hp
  split at hp
  case h_2=>cases hp
  split at hp
  case h_2=>cases hp
  rename_i x t ea et
  obtain rfl:args = #[x]:=by rw [←Array.toArray_toList (xs:=args),ea]
  obtain rfl:argTypes = #[t]:=by rw [←Array.toArray_toList (xs:=argTypes),et]
  split at hp
  ·rename_i ti ht
   have hx:=h.ev x
   obtain ⟨i,d,z,g1,g2,g3,g4,g5,g6⟩:=tyI_parts (tab_at hT ht)
   unfold plen at hp
   split at hp
   ·rename_i id o n k e1
    rw [e1] at hx
    split at hp
    ·rename_i hk
     cases hp
     obtain ⟨hu,-⟩:=slice_get (tab_at hT ht) hk
     obtain ⟨a',cap,hv,-⟩:=hx.msl_inv
     refine ⟨.int .i64 n,?_, .val _ rfl,rfl⟩
     simp [execOp,resolve,invoke,builtin,Builtin.len_,run_underlying hu,hv,goInt]
    ·cases hp
   ·rename_i n k cs own e1
    rw [e1] at hx
    split at hp
    ·rename_i hk
     cases hp
     obtain ⟨hu,-⟩:=slice_get (tab_at hT ht) hk
     obtain ⟨a',b,off,cap,us,hv,-⟩:=hx.sl_inv
     refine ⟨.int .i64 n,?_, .val _ rfl,rfl⟩
     simp [execOp,resolve,invoke,builtin,Builtin.len_,run_underlying hu,hv,goInt]
    ·cases hp
   ·rename_i e1
    rw [e1] at hx
    split at hp
    ·rename_i hk
     cases hp
     obtain ⟨hu,-⟩:=slice_get (tab_at hT ht) hk
     have hv:=hx.nilsl_inv
     refine ⟨.int .i64 0,?_, .val _ rfl,rfl⟩
     simp [execOp,resolve,invoke,builtin,Builtin.len_,run_underlying hu,hv,goInt]
    ·cases hp
   ·rename_i s e1
    rw [e1] at hx
    obtain ⟨hx,-⟩:=hx.val_inv
    split at hp
    ·rename_i hk
     cases hp
     refine ⟨.int .i64 s.size,?_, .val _ rfl,rfl⟩
     simp [execOp,resolve,invoke,builtin,Builtin.len_,run_underlying (kind_str (tab_at hT ht) hk),hx,goInt]
    ·cases hp
   ·split at hp
    ·rename_i n e k ag hk
     cases hp
     obtain ⟨hu,-⟩:=arr_get (tab_at hT ht) hk
     refine ⟨.int .i64 n,?_, .val _ rfl,rfl⟩
     simp [execOp,resolve,invoke,builtin,Builtin.len_,run_underlying hu,goInt]
    ·cases hp
  ·cases hp
 ·cases hp
theorem RelG.kmu_upd (h:RelG Φ0 W M Φ μ ω σ a w) {id:Nat} {bs:List PV} (hb:σ.b id=some bs) (x:List PV):∀i g,Φ0.mu i=some g→(upd σ.b id (some x) i≠none∨σ.m i≠none)→μ i=some g:=fun i g e hi=>h.kmu i g e (by
 rcases hi with hi|hi
 ·left
  intro hn
  refine hi ?_
  have:i≠id:=by rintro rfl;rw [hb] at hn;cases hn
  simp only [upd_if,if_neg this];exact hn
 ·exact .inr hi)
theorem RelG.store (h:RelG Φ0 W M Φ μ ω σ a w) {id:Nat} {bs new:List PV} (hb:σ.b id=some bs) {off:Nat} {vs:List Value} (hn:CellsR Φ μ new vs) (hle:off+new.length≤bs.length) {g:Nat} (hg:μ id=some g) :
  ∃w',(storeCells ⟨g,off,none⟩ vs).run P w = .ok () w'∧RelG Φ0 W M Φ μ ω { σ with b:=upd σ.b id (some (splice bs off new)) } a w':=by
 obtain ⟨g',cur,Ty,h1,h2,h3,h4,h5,h6,h7⟩:=h.box id bs hb
 rw [hg] at h1;cases h1
 have hl:=hn.1.1
 have hcl:bs.length≤cur.toList.length:=by simpa using h6
 have hrun:=run_storeCells_at P g off Ty vs 0 cur w h2 (by omega) hn.2.1
 rw [Nat.add_zero] at hrun
 refine ⟨_,hrun,?_⟩
 have hlt:g < w.heap.size:=(Array.getElem?_eq_some_iff.1 h2).1
 have hmo:∀i X,σ.m i=some X→∀q,OfId i q→q≠.box id:=by
  rintro i X e q hq rfl
  rcases hq with hq|⟨j,hq⟩
  ·cases hq
   obtain ⟨g',k1,-,-,-,k5⟩:=h.map _ X e
   rw [hg] at k1;cases k1
   cases X with
   |map es clock=>obtain ⟨-,ents,k6,-⟩:=k5;rw [h2] at k6;cases k6
   |iter mid since seen last=>obtain ⟨gm,-,k6⟩:=k5;rw [h2] at k6;cases k6
  ·cases hq
 have hkeep:∀q:Who,q≠.box id→∀g',ω g' = some q→(w.setRow g (cur.toList.take off ++ vs ++ cur.toList.drop (off+vs.length)).toArray).heap[g']? = w.heap[g']?∧(∀j,Φ g' j=Φ g' j)∧ω g' = some q:=by
  intro q hq g' e
  refine ⟨setRow_other w g g' _ ?_,fun _=>rfl,e⟩
  rintro rfl
  rw [h4] at e;cases e;exact hq rfl
 refine ⟨?_,h.defers,h.size,?_,h.old,h.tmps,fun t n k cs E e=>(h.own t n k cs E e).step (hkeep _ (by simp)),?_,?_,fun g' p e=>by simpa using h.lt g' p e,h.gmu,h.kmu_upd hb _,h.ext,fun i X e=>(h.map i X e).step (fun _ _ _ e=>e) (fun _ _ e=>e) (fun q hq g' e' => hkeep q (hmo i X e q hq) g' e'),h.mine⟩
 ·exact h.below.trans ⟨rfl,rfl,rfl,by simp,fun k hk=>setRow_other w g k _ (h3.ne hk)⟩
 ·intro b o u e
  have hbg:b≠g:=by rintro rfl;rw [h5] at e;cases e
  have:=h.imm b o u e
  simp only [World.cell?] at this ⊢
  rw [setRow_other w g b _ hbg];exact this
 ·intro i bs' e
  by_cases hi:i=id
  ·subst hi
   simp only [upd_if,if_true] at e
   cases e
   have hbl:(splice bs off new).length=bs.length:=by simp only [splice,List.length_append,List.length_take,List.length_drop];omega
   refine ⟨g,_,Ty,hg,setRow_heap w g cur _ Ty _ h2,h3,h4,h5,by rw [hbl];simp only [List.size_toArray,List.length_append,List.length_take,List.length_drop,Array.length_toList];omega,?_⟩
   intro j c hc
   unfold splice at hc
   by_cases j1:j < off
   ·rw [List.append_assoc,List.getElem?_append_left (by rw [List.length_take];omega),List.getElem?_take,if_pos j1] at hc
    obtain ⟨u,r1,r2,r3,r4⟩:=h7 j c hc
    refine ⟨u,?_,r2,r3,fun n k cs E e=>(r4 n k cs E e).step (hkeep _ (by simp))⟩
    rw [List.getElem?_toArray,List.append_assoc,List.getElem?_append_left (by rw [List.length_take];omega),List.getElem?_take,if_pos j1]
    simpa using r1
   ·by_cases j2:j < off+new.length
    ·rw [List.append_assoc,List.getElem?_append_right (by rw [List.length_take];omega),List.length_take,List.getElem?_append_left (by omega),show min off bs.length=off by omega] at hc
     obtain ⟨u,hu,hru⟩:=hn.1.get hc
     refine ⟨u,?_,hn.2.1 u (mem_of_get hu),hru,fun n k cs E e=>?_⟩
     ·rw [List.getElem?_toArray,List.append_assoc,List.getElem?_append_right (by rw [List.length_take];omega),List.length_take,List.getElem?_append_left (by omega),show min off cur.toList.length=off by omega]
      exact hu
     ·have:=hn.2.2 c (mem_of_get hc)
      rw [e] at this;simp [PV.ownB] at this
    ·rw [List.getElem?_append_right (by rw [List.length_append,List.length_take];omega),List.length_append,List.length_take,List.getElem?_drop,show off+new.length+(j - (min off bs.length+new.length))=j by omega] at hc
     obtain ⟨u,r1,r2,r3,r4⟩:=h7 j c hc
     refine ⟨u,?_,r2,r3,fun n k cs E e=>(r4 n k cs E e).step (hkeep _ (by simp))⟩
     rw [List.getElem?_toArray,List.getElem?_append_right (by rw [List.length_append,List.length_take];omega),List.length_append,List.length_take,List.getElem?_drop,show off+vs.length+(j - (min off cur.toList.length+vs.length))=j by omega]
     simpa using r1
  ·simp only [upd_if,if_neg hi] at e
   obtain ⟨g2,cur2,T2,k1,k2,k3,k4,k5,k6,k7⟩:=h.box i bs' e
   have hne:(Who.box i)≠.box id:=by simp [hi]
   refine ⟨g2,cur2,T2,k1,by rw [(hkeep _ hne g2 k4).1];exact k2,k3,k4,k5,k6,fun j c hc=>?_⟩
   obtain ⟨u,r1,r2,r3,r4⟩:=k7 j c hc
   exact ⟨u,r1,r2,r3,fun n k cs E e=>(r4 n k cs E e).step (hkeep _ (by simp))⟩
 ·intro i e em
  by_cases hi:i=id
  ·subst hi;simp [upd_if] at e
  ·simp only [upd_if,if_neg hi] at e;exact h.gone i e em
theorem RelG.moveOwn (h:RelG Φ0 W M Φ μ ω σ a w) {s d:Nat} (hd:d < M) {n k:Nat} {cs:List PV} {E:TypeId} (hs:σ.t s = .sl n k cs (some E)) :
  ∃ω',RelG Φ0 W M Φ μ ω' { σ with t:=upd (upd σ.t s (σ.t s).bare) d (σ.t s) } (a.put (some d) (a.tmps.getD s undef)) w:=by
 have hd' : d < a.tmps.size:=by rw [h.size];exact hd
 have ho:=h.own s n k cs E hs
 have hr:=h.tmps s
 have key:∀ω' : Nat→Option Who,(∀g p,ω g=some p→p≠.tmp s→ω' g=some p)→(∀g p,ω' g=some p→g < w.heap.size∧Mine Φ0 W g)→OwnAt (Mine Φ0 W) Φ ω' w (.tmp d) n k E (a.tmps.getD s undef) →
   RelG Φ0 W M Φ μ ω' { σ with t:=upd (upd σ.t s (σ.t s).bare) d (σ.t s) } (a.put (some d) (a.tmps.getD s undef)) w:=by
  intro ω' hω hlt ho'
  have hstep:∀q n k E v,q≠.tmp s→OwnAt (Mine Φ0 W) Φ ω w q n k E v→OwnAt (Mine Φ0 W) Φ ω' w q n k E v:=fun q n k E v hq hh=>hh.step (fun g e=>⟨rfl,fun _=>rfl,hω g q e hq⟩)
  refine ⟨h.below,h.defers,by simp [Act.put,h.size],h.imm,h.old,fun t=>?_,fun t n' k' cs' E' e=>?_,fun id bs e=>?_,h.gone,fun g p e=>(hlt g p e).1,h.gmu,h.kmu,h.ext,fun id X e=>(h.map id X e).step (fun _ _ _ e=>e) (fun _ _ e=>e) (fun q hq g e=>⟨rfl,fun _=>rfl,hω g q e (by rintro rfl;rcases hq with hq|⟨j,hq⟩<;>cases hq)⟩),fun g p e=>(hlt g p e).2⟩
  ·rw [getD_put _ _ _ _ hd']
   simp only [upd_if]
   by_cases ht:t=d
   ·simp only [if_pos ht];exact hr
   ·simp only [if_neg ht]
    by_cases hts:t=s
    ·subst hts;simp only [if_true];exact hr.bare
    ·simp only [if_neg hts];exact h.tmps t
  ·rw [getD_put _ _ _ _ hd']
   simp only [upd_if] at e
   by_cases ht:t=d
   ·simp only [if_pos ht] at e ⊢
    rw [hs] at e;cases e
    subst ht;exact ho'
   ·simp only [if_neg ht] at e ⊢
    by_cases hts:t=s
    ·simp only [if_pos hts] at e
     have:=PV.bare_own (σ.t s);rw [e] at this;simp [PV.ownB] at this
    ·simp only [if_neg hts] at e
     exact hstep _ _ _ _ _ (by simp [hts]) (h.own t n' k' cs' E' e)
  ·obtain ⟨g,cur,Ty,h1,h2,h3,h4,h5,h6,h7⟩:=h.box id bs e
   refine ⟨g,cur,Ty,h1,h2,h3,hω g _ h4 (by simp),h5,h6,fun j c hc=>?_⟩
   obtain ⟨u,r1,r2,r3,r4⟩:=h7 j c hc
   exact ⟨u,r1,r2,r3,fun n k cs E e=>hstep _ _ _ _ _ (by simp) (r4 n k cs E e)⟩
 rcases ho with ⟨ho,hn⟩|⟨g,cap,cur,h1,h2,h3,h4,h5,h6,h7,h8⟩|ho
 rotate_left 2
 ·exact ⟨ω,key ω (fun g p e _=>e) (fun g p e=>⟨h.lt g p e,h.mine g p e⟩) (.inr (.inr ho))⟩
 ·exact ⟨ω,key ω (fun g p e _=>e) (fun g p e=>⟨h.lt g p e,h.mine g p e⟩) (.inl ⟨ho,hn⟩)⟩
 ·refine ⟨upd ω g (some (.tmp d)),key _ ?_ ?_ (.inr (.inl ⟨g,cap,cur,h1,h2,h3,h4,h5,h6,by simp [upd_if],h8⟩))⟩
  ·intro g' p e hp
   simp only [upd_if]
   rw [if_neg (by rintro rfl;rw [h7] at e;cases e;exact hp rfl)]
   exact e
  ·intro g' p e
   simp only [upd_if] at e
   split at e
   ·subst g'; exact ⟨(Array.getElem?_eq_some_iff.1 h3).1,h2⟩
   ·exact ⟨h.lt g' p e,h.mine g' p e⟩
theorem RelG.newOwn (h:RelG Φ0 W M Φ μ ω σ a w) {d:Nat} (hd:d < M) {N k cap:Nat} {L:List PV} {cur:Array Value} {e:TypeId} (hL:L.length=N * k) (hr:RepL Φ μ L (cur.toList.take (N * k))) (hN:N≤cap) (hcap:cap≤maxLen) (hcur:cur.size=cap * k) (hE:e < 1000000) :
  ∃Φ' ω',RelG Φ0 W M Φ' μ ω' (σ.put d (.sl N k L (some e))) (a.put (some d) (.slice (some ⟨w.heap.size,0,none⟩) N cap)) (w.alloc (.cells cur e))∧(∀b o u,Φ b o=some u→Φ' b o=some u):=by
 have hW:=h.below.size
 have hd' : d < a.tmps.size:=by rw [h.size];exact hd
 have h1:=h.row (cur.toList.take (N * k)).toArray e
 -- the same memory,but for the spare cells
 let Φ' : Imm:=immRow Φ w.heap.size (cur.toList.take (N * k)).toArray
 have hsub:∀b o u,Φ b o=some u→Φ' b o=some u:=by
  intro b o u e;show immRow _ _ _ b o=_;unfold immRow;rw [if_neg (by have:=h.fresh e;omega)];exact e
 have hrow:∀j,Φ' w.heap.size j=(cur.toList.take (N * k))[j]?:=by intro j;show immRow _ _ _ _ _=_;simp [immRow]
 have h2:RelG Φ0 W M Φ' μ ω σ a (w.alloc (.cells cur e)):=by
  refine h.grow (h.below.alloc _) ?_ ?_ hsub ?_ (by simp)
  ·intro b o u hu
   by_cases hb:b=w.heap.size
   ·subst hb
    rw [hrow,List.getElem?_take] at hu
    rw [cell_alloc_new]
    split at hu
    ·simpa using hu
    ·cases hu
   ·have hu' : Φ b o=some u:=by
     have:Φ' b o=Φ b o:=by show immRow _ _ _ b o=_;simp [immRow,hb]
     rw [←this];exact hu
    rw [cell_alloc_old _ _ _ _ (h.fresh hu')];exact h.imm b o u hu'
  ·intro b o hb;show immRow _ _ _ b o=_;unfold immRow;rw [if_neg (by have:=hb.1;omega)]
  ·intro g p hg
   have:=h.lt g p hg
   exact ⟨Below.heap_alloc _ _ _ this,fun j=>by show immRow _ _ _ g j=_;unfold immRow;rw [if_neg (by omega)]⟩
 refine ⟨Φ',upd ω w.heap.size (some (.tmp d)),?_,hsub⟩
 have hω:∀g p,ω g=some p→upd ω w.heap.size (some (.tmp d)) g=some p:=by
  intro g p e
  simp only [upd_if];rw [if_neg (by have:=h.lt g p e;omega)];exact e
 have hstep:∀q n k E v,OwnAt (Mine Φ0 W) Φ' ω (w.alloc (.cells cur e)) q n k E v→OwnAt (Mine Φ0 W) Φ' (upd ω w.heap.size (some (.tmp d))) (w.alloc (.cells cur e)) q n k E v:=fun q n k E v hh=>hh.step (fun g e=>⟨rfl,fun _=>rfl,hω g q e⟩)
 refine ⟨h2.below,h2.defers,by simp [Act.put,h.size],h2.imm,h2.old,fun t=>?_,fun t n' k' cs' E' et=>?_,fun id bs eb=>?_,h2.gone,?_,h2.gmu,h2.kmu,h2.ext,fun id X e=>(h2.map id X e).step (fun _ _ _ e=>e) (fun _ _ e=>e) (fun q _ g e=>⟨rfl,fun _=>rfl,hω g q e⟩),fun g p e=>?_⟩
 ·rw [getD_put _ _ _ _ hd']
  simp only [PS.put,upd_if]
  by_cases ht:t=d
  ·simp only [if_pos ht]
   refine .sl N k L _ w.heap.size 0 cap (fun j=>(cur.toList.take (N * k)).getD j undef) hL hN hcap (fun j hj=>?_) (fun j c hc=>?_)
   ·rw [Nat.zero_add,hrow]
    have:j < (cur.toList.take (N * k)).length:=by rw [hr.1];exact hj
    rw [List.getD_eq_getElem?_getD,List.getElem?_eq_getElem this];rfl
   ·exact (hr.mono hsub (fun _ _ e=>e)).us j c hc
  ·simp only [if_neg ht];exact h2.tmps t
 ·rw [getD_put _ _ _ _ hd']
  simp only [PS.put,upd_if] at et
  by_cases ht:t=d
  ·simp only [if_pos ht] at et ⊢
   cases et
   subst ht
   refine .inr (.inl ⟨w.heap.size,cap,cur,rfl, .inl hW,heap_alloc_new w _,hN,hcap,hcur,by simp [upd_if],hE,fun j hj=>?_⟩)
   rw [hrow,List.getElem?_eq_none (by rw [List.length_take];omega)]
  ·simp only [if_neg ht] at et ⊢
   exact hstep _ _ _ _ _ (h2.own t n' k' cs' E' et)
 ·obtain ⟨g,cur',Ty,h1,h2',h3,h4,h5,h6,h7⟩:=h2.box id bs eb
  refine ⟨g,cur',Ty,h1,h2',h3,hω g _ h4,h5,h6,fun j c hc=>?_⟩
  obtain ⟨u,r1,r2,r3,r4⟩:=h7 j c hc
  exact ⟨u,r1,r2,r3,fun n k cs E e=>hstep _ _ _ _ _ (r4 n k cs E e)⟩
 ·intro g p eg
  simp only [upd_if] at eg
  split at eg
  ·subst g;simp
  ·have:=h.lt g p eg;simp;omega
 ·simp only [upd_if] at e
  split at e
  ·subst g;exact .inl hW
  ·exact h2.mine g p e
theorem RelG.appendIn (h:RelG Φ0 W M Φ μ ω σ a w) {s d:Nat} (hd:d < M) {n m k cap g:Nat} {cs ds:List PV} {e:TypeId} {cur:Array Value} {news:List Value} (hs:σ.t s = .sl n k cs (some e))
  (hv:a.tmps.getD s undef = .slice (some ⟨g,0,none⟩) n cap) (hg:w.heap[g]? = some (.cells cur e (0,0))) (hroom:n+m≤cap) (hcur:cur.size=cap * k) (hω:ω g=some (.tmp s)) (hE:e < 1000000) (hfree:∀j,n * k≤j→Φ g j=none) (hB:Mine Φ0 W g) (hcap:cap≤maxLen)
  (hds:ds.length=m * k) (hn:RepL Φ μ ds news) :
  ∃Φ' ω',RelG Φ0 W M Φ' μ ω' { σ with t:=upd (upd σ.t s (σ.t s).bare) d (.sl (n+m) k (cs ++ ds) (some e)) } (a.put (some d) (.slice (some ⟨g,0,none⟩) (n+m) cap)) (w.setRow g (cur.toList.take (n * k) ++ news ++ cur.toList.drop (n * k+news.length)).toArray):=by
 have hd' : d < a.tmps.size:=by rw [h.size];exact hd
 have hr:=h.tmps s
 rw [hs,hv] at hr
 have hcs:cs.length=n * k:=by
  obtain ⟨_,_,_,_,_,_,_,_,h3,_⟩:=hr.sl_inv;exact h3
 have hnk:(n+m) * k≤cap * k:=Nat.mul_le_mul_right _ hroom
 rw [Nat.add_mul] at hnk
 have hnl:=hn.1
 -- the old cells
 have hold:RepL Φ μ cs (cur.toList.take (n * k)):=by
  refine ⟨by rw [List.length_take,Array.length_toList,hcs];omega,fun j c u hc hu=>?_⟩
  have hj:j < n * k:=by rw [←hcs];exact (List.getElem?_eq_some_iff.1 hc).1
  cases hr with
  |sl0=>rw [List.getElem?_nil] at hc;cases hc
  |sl _ _ _ _ _ _ _ us _ _ _ hp hrr=>
   have h1:=h.imm _ _ _ (hp j (by omega))
   rw [List.getElem?_take,if_pos hj] at hu
   simp only [World.cell?,hg,Nat.zero_add] at h1
   have:u=us j:=by
    have hu' : cur[j]? = some u:=by simpa using hu
    rw [hu'] at h1;simpa using h1
   rw [this];exact hrr j c hc
 let all:List Value:=cur.toList.take (n * k) ++ news
 have hall:all.length=(n+m) * k:=by show (cur.toList.take (n * k) ++ news).length=_;rw [List.length_append,List.length_take,Array.length_toList,hnl,hds,Nat.add_mul];omega
 have hrep:RepL Φ μ (cs ++ ds) all:=by
  refine ⟨by rw [hall,List.length_append,hcs,hds,Nat.add_mul],fun j c u hc hu=>?_⟩
  by_cases hj:j < n * k
  ·rw [List.getElem?_append_left (by omega)] at hc
   rw [List.getElem?_append_left (by rw [List.length_take,Array.length_toList];omega)] at hu
   exact hold.2 j c u hc hu
  ·rw [List.getElem?_append_right (by omega),hcs] at hc
   rw [List.getElem?_append_right (by rw [List.length_take,Array.length_toList];omega),List.length_take,Array.length_toList,show min (n * k) cur.size=n * k by omega] at hu
   exact hn.2 _ c u hc hu
 let Φ' : Imm:=fun b o=>if b=g then all[o]? else Φ b o
 have hrow:∀j,Φ' g j=all[j]?:=by intro j;show (if _ then _ else _)=_;simp
 have hoth:∀b j,b≠g→Φ' b j=Φ b j:=by intro b j hb;show (if _ then _ else _)=_;simp [hb]
 have hsub:∀b o u,Φ b o=some u→Φ' b o=some u:=by
  intro b o u eu
  by_cases hb:b=g
  ·subst hb
   rw [hrow]
   have ho:o < n * k:=by
    rcases Nat.lt_or_ge o (n * k) with hlt|hge
    ·exact hlt
    ·rw [hfree o hge] at eu;cases eu
   have h1:=h.imm b o u eu
   simp only [World.cell?,hg] at h1
   show (cur.toList.take (n * k) ++ news)[o]? = _
   rw [List.getElem?_append_left (by rw [List.length_take,Array.length_toList];omega),List.getElem?_take,if_pos ho]
   simpa using h1
  ·rw [hoth b o hb];exact eu
 have hlt:g < w.heap.size:=(Array.getElem?_eq_some_iff.1 hg).1
 have hω' : ∀g' p,ω g' = some p→p≠.tmp s→upd ω g (some (.tmp d)) g' = some p:=by
  intro g' p eg hp
  simp only [upd_if]
  rw [if_neg (by rintro rfl;rw [hω] at eg;cases eg;exact hp rfl)]
  exact eg
 have hstep:∀q n' k' E v,q≠.tmp s→OwnAt (Mine Φ0 W) Φ ω w q n' k' E v→OwnAt (Mine Φ0 W) Φ' (upd ω g (some (.tmp d))) (w.setRow g (cur.toList.take (n * k) ++ news ++ cur.toList.drop (n * k+news.length)).toArray) q n' k' E v:=by
  intro q n' k' E v hq hh
  refine hh.step (fun g' eg=>?_)
  have hne:g'≠g:=by rintro rfl;rw [hω] at eg;cases eg;exact hq rfl
  exact ⟨setRow_other w g g' _ hne,fun j=>hoth g' j hne,hω' g' q eg hq⟩
 refine ⟨Φ',upd ω g (some (.tmp d)),?_,h.defers,by simp [Act.put,h.size],?_,?_,fun t=>?_,fun t n' k' cs' E' et=>?_,fun id bs eb=>?_,h.gone,?_,h.gmu,h.kmu,fun b o u e=>⟨hsub _ _ _ (h.ext b o u e).1,(h.ext b o u e).2⟩,fun id X e=>(h.map id X e).step hsub (fun _ _ e=>e) (fun q hq g' eg=>?_),fun g' p e=>?_⟩
 ·exact h.below.trans ⟨rfl,rfl,rfl,by simp,fun j hj=>setRow_other w g j _ (hB.ne hj)⟩
 ·intro b o u eu
  by_cases hb:b=g
  ·subst hb
   rw [cell_setRow_same w b o cur _ e _ hg,List.getElem?_toArray]
   rw [hrow] at eu
   rw [List.getElem?_append_left (by have:=(List.getElem?_eq_some_iff.1 eu).1;exact this)]
   exact eu
  ·rw [hoth b o hb] at eu
   have:=h.imm b o u eu
   simp only [World.cell?] at this ⊢
   rw [setRow_other w g b _ hb];exact this
 ·intro b o hb
  rw [hoth b o (hB.ne hb)];exact h.old b o hb
 ·rw [getD_put _ _ _ _ hd']
  simp only [upd_if]
  by_cases ht:t=d
  ·simp only [if_pos ht]
   refine .sl (n+m) k _ _ g 0 cap (fun j=>all.getD j undef) (by rw [List.length_append,hcs,hds,Nat.add_mul]) hroom hcap (fun j hj=>?_) (fun j c hc=>?_)
   ·rw [Nat.zero_add,hrow]
    have:j < all.length:=by rw [hrep.1];exact hj
    rw [List.getD_eq_getElem?_getD,List.getElem?_eq_getElem this];rfl
   ·exact (hrep.mono hsub (fun _ _ e=>e)).us j c hc
  ·simp only [if_neg ht]
   by_cases hts:t=s
   ·subst hts;simp only [if_true];exact ((h.tmps t).mono hsub (fun _ _ e=>e)).bare
   ·simp only [if_neg hts];exact (h.tmps t).mono hsub (fun _ _ e=>e)
 ·rw [getD_put _ _ _ _ hd']
  simp only [upd_if] at et
  by_cases ht:t=d
  ·simp only [if_pos ht] at et ⊢
   cases et
   subst ht
   refine .inr (.inl ⟨g,cap,_,rfl,hB,setRow_heap w g cur _ e _ hg,hroom,hcap,?_,by simp [upd_if],hE,fun j hj=>?_⟩)
   ·simp only [List.size_toArray,List.length_append,List.length_take,List.length_drop,Array.length_toList];omega
   ·rw [hrow,List.getElem?_eq_none (by omega)]
  ·simp only [if_neg ht] at et ⊢
   by_cases hts:t=s
   ·simp only [if_pos hts] at et
    have:=PV.bare_own (σ.t s);rw [et] at this;simp [PV.ownB] at this
   ·simp only [if_neg hts] at et
    exact hstep _ _ _ _ _ (by simp [hts]) (h.own t n' k' cs' E' et)
 ·obtain ⟨g2,cur',Ty,h1,h2',h3,h4,h5,h6,h7⟩:=h.box id bs eb
  have hne:g2≠g:=by rintro rfl;rw [hω] at h4;cases h4
  refine ⟨g2,cur',Ty,h1,by rw [setRow_other w g g2 _ hne];exact h2',h3,hω' g2 _ h4 (by simp),fun j=>by rw [hoth g2 j hne];exact h5 j,h6,fun j c hc=>?_⟩
  obtain ⟨u,r1,r2,r3,r4⟩:=h7 j c hc
  exact ⟨u,r1,r2,r3.mono hsub (fun _ _ e=>e),fun n k cs E e=>hstep _ _ _ _ _ (by simp) (r4 n k cs E e)⟩
 ·intro g' p eg
  simp only [upd_if] at eg
  split at eg
  ·subst g'; simpa using hlt
  ·simpa using h.lt g' p eg
 ·have hne:g'≠g:=by rintro rfl;rw [hω] at eg;cases eg;rcases hq with hq|⟨j,hq⟩<;>cases hq
  exact ⟨setRow_other w g g' _ hne,fun j=>hoth g' j hne,hω' g' q eg (by rintro rfl;rcases hq with hq|⟨j,hq⟩<;>cases hq)⟩
 ·simp only [upd_if] at e
  split at e
  ·subst g'; exact hB
  ·exact h.mine g' p e
theorem set_get {α:Type} {l:List α} {i j:Nat} {x c:α} (h:(l.set i x)[j]? = some c):(j=i∧c=x)∨(j≠i∧l[j]? = some c):=by
 rw [List.getElem?_set] at h
 by_cases e:i=j
 ·subst e
  rw [if_pos rfl] at h
  split at h
  ·simp at h;exact .inl ⟨rfl,h.symm⟩
  ·cases h
 ·rw [if_neg e] at h;exact .inr ⟨fun x=>e x.symm,h⟩
theorem RelG.disj (h:RelG Φ0 W M Φ μ ω σ a w) {i j:Nat} {bs:List PV} {X:PMap} (hb:σ.b i=some bs) (hm:σ.m j=some X):i≠j:=by
 rintro rfl
 obtain ⟨g,cur,T,h1,h2,-⟩:=h.box _ _ hb
 obtain ⟨g',k1,-,-,-,k5⟩:=h.map _ _ hm
 rw [h1] at k1;cases k1
 cases X with
 |map es clock=>obtain ⟨-,ents,k6,-⟩:=k5;rw [h2] at k6;cases k6
 |iter mid since seen last=>obtain ⟨gm,-,k6⟩:=k5;rw [h2] at k6;cases k6
theorem RelG.give (h:RelG Φ0 W M Φ μ ω σ a w) {s id off n k g:Nat} {cs:List PV} {E:TypeId} {bs:List PV} (hs:σ.t s = .sl n k cs (some E)) (hb:σ.b id=some bs) (ho:bs[off]? = some (.sl n k cs none)) (hg:μ id=some g) (hc:w.cell? ⟨g,off,none⟩=some (a.tmps.getD s undef)) :
  ∃ω',RelG Φ0 W M Φ μ ω' { t:=upd σ.t s (σ.t s).bare,b:=upd σ.b id (some (bs.set off (.sl n k cs (some E)))),m:=σ.m } a w:=by
 have hown:=h.own s n k cs E hs
 have hmo:∀i X,σ.m i=some X→∀q,OfId i q→q≠.tmp s:=by
  rintro i X e q hq rfl
  rcases hq with hq|⟨j,hq⟩<;>cases hq
 have key:∀ω' : Nat→Option Who,(∀g p,ω g=some p→p≠.tmp s→ω' g=some p)→(∀g p,ω' g=some p→g < w.heap.size∧Mine Φ0 W g)→OwnAt (Mine Φ0 W) Φ ω' w (.cell id off) n k E (a.tmps.getD s undef) →
   RelG Φ0 W M Φ μ ω' { t:=upd σ.t s (σ.t s).bare,b:=upd σ.b id (some (bs.set off (.sl n k cs (some E)))),m:=σ.m } a w:=by
  intro ω' hω hlt ho'
  have hstep:∀q n k E v,q≠.tmp s→OwnAt (Mine Φ0 W) Φ ω w q n k E v→OwnAt (Mine Φ0 W) Φ ω' w q n k E v:=fun q n k E v hq hh=>hh.step (fun g e=>⟨rfl,fun _=>rfl,hω g q e hq⟩)
  have h1:=h.strip s
  refine ⟨h.below,h.defers,h.size,h.imm,h.old,h1.tmps,fun t n' k' cs' E' e=>?_,fun i bs' e=>?_,fun i e em=>?_,fun g p e=>(hlt g p e).1,h.gmu,h.kmu_upd hb _,h.ext,fun i X e=>(h.map i X e).step (fun _ _ _ e=>e) (fun _ _ e=>e) (fun q hq g e' => ⟨rfl,fun _=>rfl,hω g q e' (hmo i X e q hq)⟩),fun g p e=>(hlt g p e).2⟩
  ·by_cases ht:t=s
   ·subst ht
    simp only [upd_if,if_true] at e
    have:=PV.bare_own (σ.t t);rw [e] at this;simp [PV.ownB] at this
   ·simp only [upd_if,if_neg ht] at e
    exact hstep _ _ _ _ _ (by simp [ht]) (h.own t n' k' cs' E' e)
  ·by_cases hi:i=id
   ·subst hi
    simp only [upd_if,if_true] at e
    cases e
    obtain ⟨g',cur,Ty,h1,h2,h3,h4,h5,h6,h7⟩:=h.box i bs hb
    rw [hg] at h1;cases h1
    refine ⟨g,cur,Ty,hg,h2,h3,hω g _ h4 (by simp),h5,by simpa using h6,fun j c hcj=>?_⟩
    rcases set_get hcj with ⟨rfl,rfl⟩|⟨hne,hcj⟩
    ·obtain ⟨u,r1,r2,r3,r4⟩:=h7 j _ ho
     have hu:u=a.tmps.getD s undef:=by
      simp only [World.cell?,h2] at hc
      have hc' : cur[j]? = some (a.tmps.getD s undef):=by simpa using hc
      rw [r1] at hc'; simpa using hc'
     refine ⟨u,r1,r2,?_,fun n' k' cs' E' e=>?_⟩
     ·have:=h.tmps s;rw [hs,←hu] at this;exact this
     ·cases e;rw [hu];exact ho'
    ·obtain ⟨u,r1,r2,r3,r4⟩:=h7 j c hcj
     exact ⟨u,r1,r2,r3,fun n k cs E e=>hstep _ _ _ _ _ (by simp) (r4 n k cs E e)⟩
   ·simp only [upd_if,if_neg hi] at e
    obtain ⟨g',cur,Ty,h1,h2,h3,h4,h5,h6,h7⟩:=h.box i bs' e
    refine ⟨g',cur,Ty,h1,h2,h3,hω g' _ h4 (by simp),h5,h6,fun j c hcj=>?_⟩
    obtain ⟨u,r1,r2,r3,r4⟩:=h7 j c hcj
    exact ⟨u,r1,r2,r3,fun n k cs E e=>hstep _ _ _ _ _ (by simp) (r4 n k cs E e)⟩
  ·by_cases hi:i=id
   ·subst hi;simp [upd_if] at e
   ·simp only [upd_if,if_neg hi] at e;exact h.gone i e em
 rcases hown with ⟨hn,hn0⟩|⟨g',cap,cur,h1,h2,h3,h4,h5,h6,h7,h8⟩|hfl
 rotate_left 2
 ·exact ⟨ω,key ω (fun g p e _=>e) (fun g p e=>⟨h.lt g p e,h.mine g p e⟩) (.inr (.inr hfl))⟩
 ·exact ⟨ω,key ω (fun g p e _=>e) (fun g p e=>⟨h.lt g p e,h.mine g p e⟩) (.inl ⟨hn,hn0⟩)⟩
 ·refine ⟨upd ω g' (some (.cell id off)),key _ ?_ ?_ (.inr (.inl ⟨g',cap,cur,h1,h2,h3,h4,h5,h6,by simp [upd_if],h8⟩))⟩
  ·intro g'' p e hp
   simp only [upd_if]
   rw [if_neg (by rintro rfl;rw [h7] at e;cases e;exact hp rfl)]
   exact e
  ·intro g'' p e
   simp only [upd_if] at e
   split at e
   ·subst g''; exact ⟨(Array.getElem?_eq_some_iff.1 h3).1,h2⟩
   ·exact ⟨h.lt g'' p e,h.mine g'' p e⟩
theorem RelG.fetch (h:RelG Φ0 W M Φ μ ω σ a w) {d id off n k g:Nat} (hd:d < M) {cs:List PV} {E:TypeId} {bs:List PV} (hb:σ.b id=some bs) (ho:bs[off]? = some (.sl n k cs (some E))) (hg:μ id=some g) :
  ∃u ω',w.cell? ⟨g,off,none⟩=some u∧RelG Φ0 W M Φ μ ω' { t:=upd σ.t d (.sl n k cs (some E)),b:=upd σ.b id (some (bs.set off (.sl n k cs none))),m:=σ.m } (a.put (some d) u) w:=by
 have hd' : d < a.tmps.size:=by rw [h.size];exact hd
 obtain ⟨g',cur,Ty,b1,b2,b3,b4,b5,b6,b7⟩:=h.box id bs hb
 rw [hg] at b1;cases b1
 obtain ⟨u,r1,r2,r3,r4⟩:=b7 off _ ho
 have hown:=r4 n k cs E rfl
 have hcell:w.cell? ⟨g,off,none⟩=some u:=by simp [World.cell?,b2,r1]
 have hmo:∀i X,σ.m i=some X→∀q,OfId i q→q≠.cell id off:=by
  rintro i X e q hq rfl
  rcases hq with hq|⟨j,hq⟩
  ·cases hq
  ·cases hq;exact h.disj hb e rfl
 have key:∀ω' : Nat→Option Who,(∀g p,ω g=some p→p≠.cell id off→ω' g=some p)→(∀g p,ω' g=some p→g < w.heap.size∧Mine Φ0 W g)→OwnAt (Mine Φ0 W) Φ ω' w (.tmp d) n k E u →
   RelG Φ0 W M Φ μ ω' { t:=upd σ.t d (.sl n k cs (some E)),b:=upd σ.b id (some (bs.set off (.sl n k cs none))),m:=σ.m } (a.put (some d) u) w:=by
  intro ω' hω hlt ho'
  have hstep:∀q n k E v,q≠.cell id off→OwnAt (Mine Φ0 W) Φ ω w q n k E v→OwnAt (Mine Φ0 W) Φ ω' w q n k E v:=fun q n k E v hq hh=>hh.step (fun g e=>⟨rfl,fun _=>rfl,hω g q e hq⟩)
  refine ⟨h.below,h.defers,by simp [Act.put,h.size],h.imm,h.old,fun t=>?_,fun t n' k' cs' E' e=>?_,fun i bs' e=>?_,fun i e em=>?_,fun g p e=>(hlt g p e).1,h.gmu,h.kmu_upd hb _,h.ext,fun i X e=>(h.map i X e).step (fun _ _ _ e=>e) (fun _ _ e=>e) (fun q hq g e' => ⟨rfl,fun _=>rfl,hω g q e' (hmo i X e q hq)⟩),fun g p e=>(hlt g p e).2⟩
  ·rw [getD_put _ _ _ _ hd']
   by_cases ht:t=d
   ·simp only [upd_if,if_pos ht];exact r3
   ·simp only [upd_if,if_neg ht];exact h.tmps t
  ·rw [getD_put _ _ _ _ hd']
   by_cases ht:t=d
   ·simp only [upd_if,if_pos ht] at e ⊢
    cases e
    subst ht;exact ho'
   ·simp only [upd_if,if_neg ht] at e ⊢
    exact hstep _ _ _ _ _ (by simp) (h.own t n' k' cs' E' e)
  ·by_cases hi:i=id
   ·subst hi
    simp only [upd_if,if_true] at e
    cases e
    refine ⟨g,cur,Ty,hg,b2,b3,hω g _ b4 (by simp),b5,by simpa using b6,fun j c hcj=>?_⟩
    rcases set_get hcj with ⟨rfl,rfl⟩|⟨hne,hcj⟩
    ·exact ⟨u,r1,r2,r3.bare,fun n' k' cs' E' e=>by cases e⟩
    ·obtain ⟨u',q1,q2,q3,q4⟩:=b7 j c hcj
     exact ⟨u',q1,q2,q3,fun n k cs E e=>hstep _ _ _ _ _ (by simp [hne]) (q4 n k cs E e)⟩
   ·simp only [upd_if,if_neg hi] at e
    obtain ⟨g',cur',Ty',h1,h2,h3,h4,h5,h6,h7⟩:=h.box i bs' e
    refine ⟨g',cur',Ty',h1,h2,h3,hω g' _ h4 (by simp),h5,h6,fun j c hcj=>?_⟩
    obtain ⟨u',q1,q2,q3,q4⟩:=h7 j c hcj
    exact ⟨u',q1,q2,q3,fun n k cs E e=>hstep _ _ _ _ _ (by simp [hi]) (q4 n k cs E e)⟩
  ·by_cases hi:i=id
   ·subst hi;simp [upd_if] at e
   ·simp only [upd_if,if_neg hi] at e;exact h.gone i e em
 rcases hown with ⟨hn,hn0⟩|⟨g',cap,cur',h1,h2,h3,h4,h5,h6,h7,h8⟩|hfl
 rotate_left 2
 ·exact ⟨u,ω,hcell,key ω (fun g p e _=>e) (fun g p e=>⟨h.lt g p e,h.mine g p e⟩) (.inr (.inr hfl))⟩
 ·exact ⟨u,ω,hcell,key ω (fun g p e _=>e) (fun g p e=>⟨h.lt g p e,h.mine g p e⟩) (.inl ⟨hn,hn0⟩)⟩
 ·refine ⟨u,upd ω g' (some (.tmp d)),hcell,key _ ?_ ?_ (.inr (.inl ⟨g',cap,cur',h1,h2,h3,h4,h5,h6,by simp [upd_if],h8⟩))⟩
  ·intro g'' p e hp
   simp only [upd_if]
   rw [if_neg (by rintro rfl;rw [h7] at e;cases e;exact hp rfl)]
   exact e
  ·intro g'' p e
   simp only [upd_if] at e
   split at e
   ·subst g''; exact ⟨(Array.getElem?_eq_some_iff.1 h3).1,h2⟩
   ·exact ⟨h.lt g'' p e,h.mine g'' p e⟩
def World.setO (w:World) (g:Nat) (o:Obj):World:={ w with heap:=w.heap.setIfInBounds g o }
theorem setO_other (w:World) (g k:Nat) (o:Obj) (h:k≠g):(World.setO w g o).heap[k]? = w.heap[k]?:=by
 simp [World.setO,Array.getElem?_setIfInBounds,Ne.symm h]
theorem setO_same (w:World) (g:Nat) (o:Obj) (h:g < w.heap.size):(World.setO w g o).heap[g]? = some o:=by
 simp [World.setO,Array.getElem?_setIfInBounds,h]
theorem RelG.setMap (h:RelG Φ0 W M Φ μ ω σ a w) {id g:Nat} {X X' : PMap} (hm:σ.m id=some X) (hg:μ id=some g) (ob:Obj) (hX:match X' with
   | .map es clock=>StampsOK es clock∧∃ents,ob = .map ents clock∧ents.size=es.length∧∀(j:Nat) s k c,es[j]? = some (s,k,c)→∃e,ents[j]? = some e∧e.born=s∧Rep Φ μ k e.key∧Rep Φ μ c e.val∧∀n kk cs E,c = .sl n kk cs (some E)→OwnAt (Mine Φ0 W) Φ ω w (.cell id s) n kk E e.val
   | .iter mid since seen last=>∃gm,μ mid=some gm∧ob = .mapIter (some gm) since seen.toArray last) :
  RelG Φ0 W M Φ μ ω { σ with m:=upd σ.m id (some X') } a (World.setO w g ob):=by
 obtain ⟨g',k1,k2,k3,k4,k5⟩:=h.map _ _ hm
 rw [hg] at k1;cases k1
 have hlt:=h.lt g _ k3
 have hkeep:∀q:Who,q≠.box id→∀g',ω g' = some q→(World.setO w g ob).heap[g']? = w.heap[g']?∧(∀j,Φ g' j=Φ g' j)∧ω g' = some q:=by
  intro q hq g' e
  refine ⟨setO_other w g g' _ ?_,fun _=>rfl,e⟩
  rintro rfl
  rw [k3] at e;cases e;exact hq rfl
 refine ⟨h.below.trans ⟨rfl,rfl,rfl,by simp [World.setO],fun k hk=>setO_other w g k _ (k2.ne hk)⟩,h.defers,h.size,?_,h.old,h.tmps,fun t n k cs E e=>(h.own t n k cs E e).step (hkeep _ (by simp)),fun i bs e=>(h.box i bs e).step (fun _ _ _ e=>e) (fun _ _ e=>e) (fun q hq=>hkeep q ?_),fun i e em=>?_,fun g' p e=>by simpa [World.setO] using h.lt g' p e,h.gmu,fun i g' e hi=>h.kmu i g' e ?_,h.ext,fun i Y e=>?_,h.mine⟩
 ·intro b o u e
  have hbg:b≠g:=by rintro rfl;rw [k4] at e;cases e
  have:=h.imm b o u e
  simp only [World.cell?] at this ⊢
  rw [setO_other w g b _ hbg];exact this
 ·rintro rfl
  rcases hq with hq|⟨j,hq⟩
  ·cases hq;exact h.disj e hm rfl
  ·cases hq
 ·by_cases hi:i=id
  ·subst hi;simp [upd_if] at em
  ·simp only [upd_if,if_neg hi] at em;exact h.gone i e em
 ·rcases hi with hi|hi
  ·exact .inl hi
  ·by_cases hid:i=id
   ·subst hid;right;rw [hm];simp
   ·simp only [upd_if,if_neg hid] at hi;exact .inr hi
 ·by_cases hi:i=id
  ·subst hi
   simp only [upd_if,if_true] at e
   cases e
   refine ⟨g,hg,k2,k3,k4,?_⟩
   cases X' with
   |map es clock=>
    obtain ⟨e0,ents,rfl,e2,e3⟩:=hX
    refine ⟨e0,ents,setO_same w g _ hlt,e2,fun j s k c hj=>?_⟩
    obtain ⟨e,f1,f2,f3,f4,f5⟩:=e3 j s k c hj
    exact ⟨e,f1,f2,f3,f4,fun n kk cs E ec=>(f5 n kk cs E ec).step (hkeep _ (by simp))⟩
   |iter mid since seen last=>
    obtain ⟨gm,e1,rfl⟩:=hX
    exact ⟨gm,e1,setO_same w g _ hlt⟩
  ·simp only [upd_if,if_neg hi] at e
   exact (h.map i Y e).step (fun _ _ _ e=>e) (fun _ _ e=>e) (fun q hq=>hkeep q (by rintro rfl;rcases hq with hq|⟨j,hq⟩<;>cases hq;exact hi rfl))
theorem RelG.turn (h:RelG Φ0 W M Φ μ ω σ a w) {σ' : PS} {a' : Act} {p q:Who} {n k:Nat} {E:TypeId} {v:Value} (ho:OwnAt (Mine Φ0 W) Φ ω w p n k E v)
  (hsz:a'.tmps.size=M) (hdf:a'.defers=Φ0.marks.map collD∧RndOK Φ0 W) (htm:∀t,Rep Φ μ (σ'.t t) (a'.tmps.getD t undef))
  (key:∀ω' : Nat→Option Who,(∀g r,ω g=some r→r≠p→ω' g=some r)→OwnAt (Mine Φ0 W) Φ ω' w q n k E v →
   (∀t n k cs E,σ'.t t = .sl n k cs (some E)→OwnAt (Mine Φ0 W) Φ ω' w (.tmp t) n k E (a'.tmps.getD t undef))∧(∀id bs,σ'.b id=some bs→BoxAt (Mine Φ0 W) Φ μ ω' w id bs)∧(∀id X,σ'.m id=some X→MapAt (Mine Φ0 W) Φ μ ω' w id X))
  (hb:∀id,σ'.b id=none↔σ.b id=none) (hm:∀id,σ'.m id=none↔σ.m id=none):∃ω',RelG Φ0 W M Φ μ ω' σ' a' w:=by
 have fin:∀ω' : Nat→Option Who,(∀g r,ω g=some r→r≠p→ω' g=some r)→(∀g p,ω' g=some p→g < w.heap.size∧Mine Φ0 W g)→OwnAt (Mine Φ0 W) Φ ω' w q n k E v→RelG Φ0 W M Φ μ ω' σ' a' w:=by
  intro ω' h1 h2 h3
  obtain ⟨k1,k2,k3⟩:=key ω' h1 h3
  exact ⟨h.below,hdf,hsz,h.imm,h.old,htm,k1,k2,fun id e em=>h.gone id ((hb id).1 e) ((hm id).1 em),fun g p e=>(h2 g p e).1,h.gmu,fun id g e hi=>h.kmu id g e (by
   rcases hi with hi|hi
   ·exact .inl (fun e=>hi ((hb id).2 e))
   ·exact .inr (fun e=>hi ((hm id).2 e))),h.ext,k3,fun g p e=>(h2 g p e).2⟩
 rcases ho with ⟨hn,hn0⟩|⟨g',cap,cur,h1,h2,h3,h4,h5,h6,h7,h8⟩|hfl
 rotate_left 2
 ·exact ⟨ω,fin ω (fun g r e _=>e) (fun g p e=>⟨h.lt g p e,h.mine g p e⟩) (.inr (.inr hfl))⟩
 ·exact ⟨ω,fin ω (fun g r e _=>e) (fun g p e=>⟨h.lt g p e,h.mine g p e⟩) (.inl ⟨hn,hn0⟩)⟩
 ·refine ⟨upd ω g' (some q),fin _ ?_ ?_ (.inr (.inl ⟨g',cap,cur,h1,h2,h3,h4,h5,h6,by simp [upd_if],h8⟩))⟩
  ·intro g r e hp
   simp only [upd_if]
   rw [if_neg (by rintro rfl;rw [h7] at e;cases e;exact hp rfl)]
   exact e
  ·intro g r e
   simp only [upd_if] at e
   split at e
   ·subst g;exact ⟨(Array.getElem?_eq_some_iff.1 h3).1,h2⟩
   ·exact ⟨h.lt g r e,h.mine g r e⟩
theorem stamps_set {es:List (Nat×PV×PV)} {clock j s:Nat} {k c k' c' : PV} (h:StampsOK es clock) (hj:es[j]? = some (s,k,c)):StampsOK (es.set j (s,k',c')) clock:=by
 have e1:(es.set j (s,k',c')).map (·.1)=es.map (·.1):=by
  rw [List.map_set]
  apply List.ext_getElem?
  intro q
  rw [List.getElem?_set]
  split
  ·rename_i e;subst e
   rw [List.getElem?_map,hj]
   split
   ·rfl
   ·rename_i hl;simp at hl;have:=(List.getElem?_eq_some_iff.1 hj).1;omega
  ·rfl
 refine ⟨by rw [e1];exact h.1,fun e he=>?_⟩
 have:e.1∈(es.set j (s,k',c')).map (·.1):=List.mem_map.2 ⟨e,he,rfl⟩
 rw [e1] at this
 obtain ⟨x,hx,e2⟩:=List.mem_map.1 this
 rw [←e2];exact h.2 x hx
theorem RelG.giveM (h:RelG Φ0 W M Φ μ ω σ a w) {s id n k j st clock g:Nat} {cs:List PV} {E:TypeId} {es:List (Nat×PV×PV)} {kp:PV} {ents:Array MapEntry} {en:MapEntry} (hs:σ.t s = .sl n k cs (some E)) (hm:σ.m id=some (.map es clock)) (hj:es[j]? = some (st,kp, .sl n k cs none))
  (hg:μ id=some g) (hh:w.heap[g]? = some (.map ents clock)) (he:ents[j]? = some en) (hv:en.val=a.tmps.getD s undef) :
  ∃ω',RelG Φ0 W M Φ μ ω' { t:=upd σ.t s (σ.t s).bare,b:=σ.b,m:=upd σ.m id (some (.map (es.set j (st,kp, .sl n k cs (some E))) clock)) } a w:=by
 refine h.turn (q:=.cell id st) (h.own s n k cs E hs) h.size h.defers (h.strip s).tmps (fun ω' hω ho' => ⟨?_,?_,?_⟩) (fun i=>Iff.rfl) (fun i=>?_)
 ·intro t n' k' cs' E' e
  by_cases ht:t=s
  ·subst ht
   simp only [upd_if,if_true] at e
   have:=PV.bare_own (σ.t t);rw [e] at this;simp [PV.ownB] at this
  ·simp only [upd_if,if_neg ht] at e
   exact (h.own t n' k' cs' E' e).step (fun g e=>⟨rfl,fun _=>rfl,hω g _ e (by simp [ht])⟩)
 ·intro i bs e
  exact (h.box i bs e).step (fun _ _ _ e=>e) (fun _ _ e=>e) (fun q hq g e' => ⟨rfl,fun _=>rfl,hω g q e' (by rintro rfl;rcases hq with hq|⟨j,hq⟩<;>cases hq)⟩)
 ·intro i X e
  have hk:KeptBy (OfId i) Φ Φ ω ω' w w:=fun q hq g e' => ⟨rfl,fun _=>rfl,hω g q e' (by rintro rfl;rcases hq with hq|⟨j,hq⟩<;>cases hq)⟩
  by_cases hi:i=id
  ·subst hi
   simp only [upd_if,if_true] at e
   cases e
   obtain ⟨g',k1,k2,k3,k4,hst,ents',k5,k6,k7⟩:=h.map i _ hm
   rw [hg] at k1;cases k1
   rw [hh] at k5;cases k5
   refine ⟨g,hg,k2,(hk _ (.inl rfl) g k3).2.2,k4,stamps_set hst hj,ents,hh,by simpa using k6,fun j' s' kk c hj' => ?_⟩
   rcases set_get hj' with ⟨rfl,e⟩|⟨hne,hj'⟩
   ·cases e
    obtain ⟨e,f1,f2,f3,f4,f5⟩:=k7 j' _ _ _ hj
    rw [he] at f1;cases f1
    refine ⟨en,he,f2,f3,?_,fun n' kk' cs' E' e=>?_⟩
    ·have:=h.tmps s;rw [hs,←hv] at this;exact this
    ·cases e;rw [hv];exact ho'
   ·obtain ⟨e,f1,f2,f3,f4,f5⟩:=k7 j' _ _ _ hj'
    exact ⟨e,f1,f2,f3,f4,fun n' kk' cs' E' ec=>(f5 n' kk' cs' E' ec).step (fun g e' => hk _ (.inr ⟨_,rfl⟩) g e')⟩
  ·simp only [upd_if,if_neg hi] at e
   exact (h.map i X e).step (fun _ _ _ e=>e) (fun _ _ e=>e) hk
 ·by_cases hi:i=id
  ·subst hi;simp [upd_if,hm]
  ·simp [upd_if,hi]
theorem RelG.fetchM (h:RelG Φ0 W M Φ μ ω σ a w) {d id n k j st clock g:Nat} (hd:d < M) {cs:List PV} {E:TypeId} {es:List (Nat×PV×PV)} {kp:PV} {ents:Array MapEntry} {en:MapEntry} (hm:σ.m id=some (.map es clock)) (hj:es[j]? = some (st,kp, .sl n k cs (some E)))
  (hg:μ id=some g) (hh:w.heap[g]? = some (.map ents clock)) (he:ents[j]? = some en) :
  ∃ω',RelG Φ0 W M Φ μ ω' { t:=upd σ.t d (.sl n k cs (some E)),b:=σ.b,m:=upd σ.m id (some (.map (es.set j (st,kp, .sl n k cs none)) clock)) } (a.put (some d) en.val) w:=by
 have hd' : d < a.tmps.size:=by rw [h.size];exact hd
 obtain ⟨g',k1,k2,k3,k4,hst,ents',k5,k6,k7⟩:=h.map id _ hm
 rw [hg] at k1;cases k1
 rw [hh] at k5;cases k5
 obtain ⟨en',f1,f2,f3,f4,f5⟩:=k7 j _ _ _ hj
 rw [he] at f1;cases f1
 refine h.turn (q:=.tmp d) (f5 n k cs E rfl) (by simp [Act.put,h.size]) h.defers (fun t=>?_) (fun ω' hω ho' => ⟨?_,?_,?_⟩) (fun i=>Iff.rfl) (fun i=>?_)
 ·rw [getD_put _ _ _ _ hd']
  by_cases ht:t=d
  ·simp only [upd_if,if_pos ht];exact f4
  ·simp only [upd_if,if_neg ht];exact h.tmps t
 ·intro t n' k' cs' E' e
  rw [getD_put _ _ _ _ hd']
  by_cases ht:t=d
  ·simp only [upd_if,if_pos ht] at e ⊢
   cases e
   subst ht;exact ho'
  ·simp only [upd_if,if_neg ht] at e ⊢
   exact (h.own t n' k' cs' E' e).step (fun g e=>⟨rfl,fun _=>rfl,hω g _ e (by simp)⟩)
 ·intro i bs e
  exact (h.box i bs e).step (fun _ _ _ e=>e) (fun _ _ e=>e) (fun q hq g e' => ⟨rfl,fun _=>rfl,hω g q e' (by
   rintro rfl
   rcases hq with hq|⟨j,hq⟩
   ·cases hq
   ·cases hq;exact h.disj e hm rfl)⟩)
 ·intro i X e
  by_cases hi:i=id
  ·subst hi
   simp only [upd_if,if_true] at e
   cases e
   refine ⟨g,hg,k2,hω g _ k3 (by simp),k4,stamps_set hst hj,ents,hh,by simpa using k6,fun j' s' kk c hj' => ?_⟩
   rcases set_get hj' with ⟨rfl,e⟩|⟨hne,hj2⟩
   ·cases e
    exact ⟨en,he,f2,f3,f4.bare,fun n' kk' cs' E' e=>by cases e⟩
   ·obtain ⟨e,q1,q2,q3,q4,q5⟩:=k7 j' _ _ _ hj2
    refine ⟨e,q1,q2,q3,q4,fun n' kk' cs' E' ec=>(q5 n' kk' cs' E' ec).step (fun g e' => ⟨rfl,fun _=>rfl,hω g _ e' ?_⟩)⟩
    rw [Ne,Who.cell.injEq]
    rintro ⟨-,rfl⟩
    have h1:(es.map (·.1))[j]? = some s':=by rw [List.getElem?_map,hj];rfl
    have h2:(es.map (·.1))[j']? = some s':=by rw [List.getElem?_map,hj2];rfl
    have hl1:=(List.getElem?_eq_some_iff.1 h1).1
    exact hne ((List.getElem?_inj hl1 hst.1).1 (h1.trans h2.symm)).symm
  ·simp only [upd_if,if_neg hi] at e
   exact (h.map i X e).step (fun _ _ _ e=>e) (fun _ _ e=>e) (fun q hq g e' => ⟨rfl,fun _=>rfl,hω g q e' (by
    rintro rfl
    rcases hq with hq|⟨j,hq⟩
    ·cases hq
    ·cases hq;exact hi rfl)⟩)
 ·by_cases hi:i=id
  ·subst hi;simp [upd_if,hm]
  ·simp [upd_if,hi]
end
section
open Go.RowKit
def depO (o:Oper) (j:Nat):Bool:=o.after.any fun e=>Region.binds .any e && e.on == j
theorem getD_set (l:Array Bool) (i j:Nat) (h:i < l.size):(l.setIfInBounds i true).getD j false=(decide (j=i) || l.getD j false):=by
 simp only [Array.getD_eq_getD_getElem?,Array.getElem?_setIfInBounds]
 by_cases e:i=j
 ·subst e;simp [h]
 ·have e' : ¬j=i:=fun x=>e x.symm
  simp [e,e']
theorem mem_ready {ops:Array Oper} {listed:Array Bool} {i:Nat} (hs:listed.size=ops.size):i∈Region.ready .any ops listed↔∃o,ops[i]? = some o∧listed.getD i false=false∧∀j,depO o j=true→listed.getD j false=true:=by
 unfold Region.ready
 rw [List.mem_filter,List.mem_range]
 constructor
 ·rintro ⟨h1,h2⟩
  obtain ⟨o,ho⟩:∃o,ops[i]? = some o:=⟨ops[i],by simp [h1]⟩
  rw [ho] at h2
  simp only [Option.map_some,Option.getD_some,Bool.and_eq_true] at h2
  refine ⟨o,ho,?_,fun j hj=>?_⟩
  ·have:i < listed.size:=by omega
   have h3:=h2.1
   simp only [Array.getD_eq_getD_getElem?,Array.getElem?_eq_getElem this,Option.getD_some] at h3 ⊢
   simpa using h3
  ·unfold depO at hj
   rw [Array.any_eq_true] at hj
   obtain ⟨k,hk,hk2⟩:=hj
   simp only [Bool.and_eq_true,beq_iff_eq] at hk2
   have:=(Array.all_eq_true.1 h2.2) k hk
   rw [hk2.1,hk2.2] at this
   simpa using this
 ·rintro ⟨o,ho,h1,h2⟩
  have hi:i < ops.size:=(Array.getElem?_eq_some_iff.1 ho).1
  refine ⟨hi,?_⟩
  rw [ho]
  simp only [Option.map_some,Option.getD_some,Bool.and_eq_true]
  refine ⟨?_,?_⟩
  ·have:i < listed.size:=by omega
   simp only [Array.getD_eq_getD_getElem?,Array.getElem?_eq_getElem this,Option.getD_some] at h1 ⊢
   simp [h1]
  ·rw [Array.all_eq_true]
   intro k hk
   cases hb:Region.binds .any o.after[k]
   ·simp
   ·have:depO o o.after[k].on=true:=by
     unfold depO
     rw [Array.any_eq_true]
     exact ⟨k,hk,by simp [hb]⟩
    simpa using h2 _ this
end
section
open Go.RowKit
variable {P:Program} {ops:Array Oper} {Q:Exit→Act→World→Prop} {a0:Act} {w1:World} {R:Nat→Value→World→Prop} {le:World→World→Prop}
def unlisted (l:Array Bool):Nat:=(List.range l.size).countP fun i => !l.getD i false
theorem unlisted_set (l:Array Bool) (i:Nat) (hi:i < l.size) (h:l.getD i false=false):unlisted (l.setIfInBounds i true) < unlisted l:=by
 unfold unlisted
 rw [Array.size_setIfInBounds]
 have key:∀(r:List Nat),(r.countP fun j => !(l.setIfInBounds i true).getD j false)≤(r.countP fun j => !l.getD j false)∧(i∈r→(r.countP fun j => !(l.setIfInBounds i true).getD j false) < (r.countP fun j => !l.getD j false)):=by
  intro r
  induction r with
  |nil=>simp
  |cons x xs ih=>
   rw [List.countP_cons,List.countP_cons,getD_set _ _ _ hi]
   by_cases e:x=i
   ·subst e
    simp only [h,decide_true,Bool.true_or,Bool.not_true,Bool.not_false,if_true,Bool.false_eq_true,if_false]
    exact ⟨by omega,fun _=>by omega⟩
   ·simp only [e,decide_false,Bool.false_or]
    refine ⟨by omega,fun hm=>?_⟩
    have:=ih.2 (by simpa [Ne.symm e] using hm)
    omega
 exact (key _).2 (List.mem_range.2 hi)
theorem unlisted_zero {l:Array Bool} (h:unlisted l=0):∀i,i < l.size→l.getD i false=true:=by
 intro i hi
 unfold unlisted at h
 rw [List.countP_eq_zero] at h
 simpa using h i (List.mem_range.2 hi)
end
section
def intsB (l:List Int):List Int:=intB l.length ++ (l.map intB).flatten
theorem intB_len (n:Int) (h1 : -9223372036854775808≤n) (h2:n≤9223372036854775807):1≤(intB n).length∧(intB n).length≤10:=⟨leb_pos _,leb64 _ (zig_lt n h1 h2)⟩
theorem flat_len (l:List Int) (h:∀z∈l,-9223372036854775808≤z∧z≤9223372036854775807):((l.map intB).flatten).length≤10 * l.length:=by
 induction l with
 |nil=>simp
 |cons a r ih=>
  have h1:=intB_len a (h a (by simp)).1 (h a (by simp)).2
  have h2:=ih (fun z hz=>h z (by simp [hz]))
  simp only [List.map_cons,List.flatten_cons,List.length_append,List.length_cons]
  omega
theorem flat_take (l:List Int) (k:Nat) (a:Int) (h:l[k]? = some a):((l.take (k+1)).map intB).flatten=((l.take k).map intB).flatten ++ intB a:=by
 rw [List.take_add_one,h];simp
def bytesL (s:ByteArray):List Int:=s.data.toList.map fun b=>(b.toNat:Int)
def strOf (bs:List Int):ByteArray:=bs.foldl (fun r n=>r.push (UInt8.ofNat n.toNat)) ByteArray.empty
theorem bytesL_len (s:ByteArray):(bytesL s).length=s.size:=by simp [bytesL]
theorem ba_ext {a b:ByteArray} (h:a.data.toList=b.data.toList):a=b:=by
 cases a with|mk x=>cases b with|mk y=>cases x;cases y;simp at h;subst h;rfl
def strB (s:ByteArray):List Int:=intB s.size ++ bytesL s
def strsB (l:List ByteArray):List Int:=intB l.length ++ (l.map strB).flatten
def SmallStrs (l:List ByteArray):Prop:=∀s∈l,s.size≤1000000
theorem strB_len (s:ByteArray) (h:s.size≤1000000):1≤(strB s).length∧(strB s).length≤1000010:=by
 have:=intB_len s.size (by omega) (by omega)
 rw [strB,List.length_append,bytesL_len];omega
theorem strs_len (l:List ByteArray) (h:SmallStrs l):((l.map strB).flatten).length≤1000010 * l.length:=by
 induction l with
 |nil=>simp
 |cons a r ih=>
  have h1:=strB_len a (h a (by simp))
  have h2:=ih (fun z hz=>h z (by simp [hz]))
  simp only [List.map_cons,List.flatten_cons,List.length_append,List.length_cons]
  omega
theorem strs_take (l:List ByteArray) (k:Nat) (a:ByteArray) (h:l[k]? = some a):((l.take (k+1)).map strB).flatten=((l.take k).map strB).flatten ++ strB a:=by
 rw [List.take_add_one,h];simp
end
section
open Go.RowKit
theorem Byte.all {bs:List Int} (h:Byte bs):∀c∈bs,0≤c∧c < 256:=by
 intro c hc
 obtain ⟨k,hk⟩:=List.getElem?_of_mem hc
 exact h k c hk
theorem Byte.of {bs:List Int} (h:∀c∈bs,0≤c∧c < 256):Byte bs:=fun _ c hk=>h c (List.mem_of_getElem? hk)
def Fit (l:List Int):Prop:=∀z∈l,-9223372036854775808≤z∧z≤9223372036854775807
theorem oneCells (k:IntKind) (l:List Int):∀c∈l.map (Value.int k),c.oneCell' = true:=by
 intro c hc
 obtain ⟨_,_,rfl⟩:=List.mem_map.1 hc
 rfl
set_option maxRecDepth 100000 in
set_option maxHeartbeats 1000000 in
theorem refInts (v:Value) (zs:List Int) (w:World) (hv:Ints w v zs) (hf:Fit zs) (hl:zs.length≤1000000000):Calls Tryz.prog 128 #[v] w (MadeBytes w (intsB zs)):=by
 obtain ⟨a,cap,b,off,rfl,hcap,hm,ha,hc⟩:=hv.open
 have HF:=Hid.mk hf
 have hl0:=intB_len zs.length (by omega) (by omega)
 go_enter Tryz.func128,Tryz.ntmps128
 go_wp2_with (go_at_call 211;refine (refInt _ _ (by omega) (by omega)).mono ?_;rintro e w1 ⟨v1,rfl,ho1,hb1⟩)
 go_loopw [3,4] (fun o i wr=>∃k:Nat,k≤zs.length∧i = .int .i64 k∧Own w.heap.size 5 wr o ((intB zs.length ++ ((zs.take k).map intB).flatten).map (Value.int .u8))∧Below w.heap.size w wr) (fun _ i _=>zs.length - (intOf i).toNat)
 case atStart=>exact ⟨0,by omega,rfl,by simpa using ho1,hb1⟩
 case round=>
  obtain ⟨k,hk,rfl,hown,hb⟩:=hrel
  have HB:=Hid.mk hb
  clear hb
  have hb2:=HB.out.size
  by_cases hlt:k < zs.length
  ·obtain ⟨y,hy⟩:=ints_get zs k hlt
   have c1:=below_cell HB.out (hc.out k y hy)
   obtain ⟨y1,y2⟩:=HF.out y (List.mem_of_getElem? hy)
   have hl1:=intB_len y y1 y2
   have hl2:=flat_len (zs.take k) (fun z hz=>HF.out z (List.mem_of_mem_take hz))
   have hl3:(zs.take k).length≤zs.length:=by rw [List.length_take];omega
   obtain rfl:=ha (by omega)
   have T:=Hid.mk (flat_take zs k y hy)
   clear ha hy
   go_wp2_with (first|(at_builtin;refine wp_append (.tmp 14) (.tmp 19) 92 5 1 _ elemByte rfl rfl Tryz.underlying92 w.heap.size _ _ _ _ rfl (hown.kept hb3) rfl ho3.rd (by simp only [List.length_map];omega) (oneCells _ _) (by simp only [List.length_map,List.length_append,maxLen];omega) (by simp only [List.length_map,List.length_append];omega) (by have:=hb3.size;omega) ?_;intro v' w' hown' hb')|(go_at_call 211;refine (refInt _ _ y1 y2).mono ?_;rintro e w3 ⟨v3,rfl,ho3,hb3⟩))
   go_roundw
   case rel=>exact ⟨k+1,by omega,by go_num,by rw [T.out,←List.append_assoc,List.map_append];exact hown',(HB.out.trans (hb3.mono hb2)).trans hb'⟩
   case measure=>simp [intOf];omega
  ·have e:zs.take k=zs:=List.take_of_length_le (by omega)
   rw [e] at hown
   go_wp2
   go_ret
   exact ⟨_,rfl,hown,HB.out⟩
theorem strCells_eq (s:ByteArray):Lib.strCells s=(bytesL s).map (Value.int .u8):=by
 simp [Lib.strCells,bytesL]
end
end Go.Proofs.YtoamkpgaaanafaaGreat
