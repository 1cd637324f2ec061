/- Merged: Yb, Va. -/
import Derived.Test.YtoamkpgaaanafaaGreatS33
import Derived.Test.YtoamkpgaaanafaaGreatS34
/- zone: the sum of a list of entries is what is joined of theirs (no program). -/
namespace Go.Proofs.YtoamkpgaaanafaaGreat
set_option linter.unusedSimpArgs false
set_option linter.unusedVariables false
set_option linter.unnecessarySimpa false
open Go.RowKit
theorem addM_step {m n d:Int} (hn:0≤n) (h1:0≤d) (h2:d≤2000):n≤addM m n d∧addM m n d≤n+4000000:=by
 have hd:0≤d * d∧d * d≤4000000:=⟨Int.mul_nonneg h1 h1,by
  have:=Int.mul_le_mul h2 h2 h1 (by omega:(0:Int)≤2000)
  omega⟩
 unfold addM
 split
 ·omega
 ·split<;>omega
theorem keyD_step (m:Int):∀(ds:List Int) (n:Int),0≤n→(∀d∈ds,0≤d∧d≤2000)→0≤ds.foldl (addM m) n∧ds.foldl (addM m) n≤n+4000000 * (ds.length:Int)
 | [],n,hn,_=>by simpa using hn
 |d :: r,n,hn,h=>by
  obtain ⟨a1,a2⟩:=h d (by simp)
  obtain ⟨b1,b2⟩:=addM_step (m:=m) hn a1 a2
  obtain ⟨c1,c2⟩:=keyD_step m r (addM m n d) (by omega) (fun x hx=>h x (by simp [hx]))
  rw [List.foldl_cons]
  simp only [List.length_cons]
  omega
theorem zipI_get {g:Int→Int→Int} {a b:List Int} {k:Nat} (h:k < a.length):(zipI g a b).getD k default=g (a.getD k default) (b.getD k default):=by
 simp [zipI,List.getD_eq_getElem?_getD,List.getElem?_map,List.getElem?_range h]
theorem keyV_bound {m:Int} {a b:List Int} (ha:vecB a=true) (hb:vecB b=true):0≤keyV m a b∧keyV m a b≤134217728:=by
 obtain ⟨⟨-,a2⟩,a3⟩:=vecB_get ha
 obtain ⟨-,b3⟩:=vecB_get hb
 have h:=keyD_step m ((zipI subI a b).map absI) 0 (by omega) (fun d hd=>by
  obtain ⟨x,hx,rfl⟩:=List.mem_map.1 hd
  obtain ⟨k,hk,rfl⟩:=List.getElem_of_mem hx
  have hk' : k < a.length:=by rwa [zipI_len] at hk
  have e:=zipI_get (g:=subI) (b:=b) hk'
  rw [List.getD_eq_getElem?_getD,List.getElem?_eq_getElem hk,Option.getD_some] at e
  rw [e]
  have h1:=a3 k
  have h2:=b3 k
  unfold absI subI
  omega)
 unfold keyV normI keyD
 rw [List.length_map,zipI_len] at h
 omega
theorem vecB_of {v:List Int} (h1:1≤v.length) (h2:v.length≤32) (h:∀k,k < v.length → -1000≤v.getD k default∧v.getD k default≤1000):vecB v=true:=by
 simp only [vecB,Bool.and_eq_true,decide_eq_true_eq,Bool.not_eq_true',List.any_eq_false]
 refine ⟨h1,h2,fun x hx=>?_⟩
 obtain ⟨k,hk,rfl⟩:=List.getElem_of_mem hx
 have:=h k hk
 rw [List.getD_eq_getElem?_getD,List.getElem?_eq_getElem hk,Option.getD_some] at this
 simp [farB];omega
structure BoxOK (n:Nat) (b:PBox):Prop where
 lo:b.lo.length=n
 hi:b.hi.length=n
 le:∀k,k < n → -1000≤b.lo.getD k default∧b.lo.getD k default≤b.hi.getD k default∧b.hi.getD k default≤1000
theorem BoxOK.valid {n:Nat} {b:PBox} (h:BoxOK n b) (h1:1≤n) (h2:n≤32):boxB b=true:=by
 have e1:vecB b.lo=true:=vecB_of (by rw [h.lo];exact h1) (by rw [h.lo];exact h2) fun k hk=>by
  have:=h.le k (by rw [←h.lo];exact hk)
  omega
 have e2:vecB b.hi=true:=vecB_of (by rw [h.hi];exact h1) (by rw [h.hi];exact h2) fun k hk=>by
  have:=h.le k (by rw [←h.hi];exact hk)
  omega
 simp only [boxB,e1,e2,Bool.true_and,Bool.and_eq_true,decide_eq_true_eq,List.all_eq_true,List.mem_range]
 exact ⟨by rw [h.lo,h.hi],fun k hk=>(h.le k (by rw [←h.lo];exact hk)).2.1⟩
theorem boxOK_of {b:PBox} (h:boxB b=true):BoxOK b.lo.length b:=by
 obtain ⟨h1,h2⟩:=boxB_vec h
 obtain ⟨-,a⟩:=vecB_get h1
 obtain ⟨-,c⟩:=vecB_get h2
 obtain ⟨l1,-,-⟩:=boxB_len h
 refine ⟨rfl,l1.symm,fun k hk=>⟨(a k).1,?_,(c k).2⟩⟩
 simp only [boxB,Bool.and_eq_true,decide_eq_true_eq,List.all_eq_true,List.mem_range] at h
 exact h.2.2.2 k hk
theorem boxOK_vec {v:List Int} (h:vecB v=true):BoxOK v.length ⟨v,v⟩:=by
 obtain ⟨-,a⟩:=vecB_get h
 exact ⟨rfl,rfl,fun k _=>⟨(a k).1,Int.le_refl _,(a k).2⟩⟩
theorem BoxOK.grow {n:Nat} {b:PBox} {v:List Int} (h:BoxOK n b) (hv:vecB v=true):BoxOK n ⟨zipI min b.lo v,zipI max b.hi v⟩:=by
 obtain ⟨-,a⟩:=vecB_get hv
 refine ⟨by rw [zipI_len,h.lo],by rw [zipI_len,h.hi],fun k hk=>?_⟩
 have h1:=h.le k hk
 have h2:=a k
 have e1:(zipI min b.lo v).getD k default=min (b.lo.getD k default) (v.getD k default):=zipI_get (by rw [h.lo];exact hk)
 have e2:(zipI max b.hi v).getD k default=max (b.hi.getD k default) (v.getD k default):=zipI_get (by rw [h.hi];exact hk)
 simp only [e1,e2]
 omega
theorem getD_app {α:Type} [Inhabited α] {l:List α} {x:α} {k:Nat} (h:k < l.length):(l ++ [x]).getD k default=l.getD k default:=by
 rw [List.getD_eq_getElem?_getD,List.getD_eq_getElem?_getD,List.getElem?_append_left h]
theorem boxOfL_snoc {l:List (List Int)} {v:List Int} (h:0 < l.length):boxOfL (l ++ [v])=⟨zipI min (boxOfL l).lo v,zipI max (boxOfL l).hi v⟩:=by
 unfold boxOfL
 rw [List.drop_append_of_le_length (by omega),List.foldl_append,getD_app h]
 rfl
structure SumOK (s:PSchema) (pv:List (List Int)) (l:List PEntry):Prop where
 met:keyB s.metric=true
 len:pv.length≤8
 piv:∀p∈pv,vecB p=true∧(p.length:Int)=s.dims
 ent:∀e∈l,vecB e.vec=true∧(e.vec.length:Int)=s.dims
theorem SumOK.mono {s:PSchema} {pv:List (List Int)} {l:List PEntry} {e:PEntry} (h:SumOK s pv (l ++ [e])):SumOK s pv l:=⟨h.met,h.len,h.piv,fun x hx=>h.ent x (by simp [hx])⟩
theorem SumOK.last {s:PSchema} {pv:List (List Int)} {l:List PEntry} {e:PEntry} (h:SumOK s pv (l ++ [e])):vecB e.vec=true∧(e.vec.length:Int)=s.dims:=h.ent e (by simp)
theorem snoc_ind {α:Type} {P:List α→Prop} (one:∀a,P [a]) (step:∀l a,0 < l.length→P l→P (l ++ [a])) (l:List α) (h:0 < l.length):P l:=by
 have:∀n (l:List α),l.length=n+1→P l:=by
  intro n
  induction n with
  |zero=>
   intro l hl
   match l,hl with
   | [a],_=>exact one a
  |succ n ih=>
   intro l hl
   have hne:l ≠ []:=fun e=>by rw [e] at hl;simp at hl
   rw [←List.dropLast_concat_getLast hne]
   have hd:l.dropLast.length=n+1:=by rw [List.length_dropLast,hl];omega
   exact step _ _ (by omega) (ih _ hd)
 exact this (l.length - 1) l (by omega)
theorem sum_box {s:PSchema} {pv:List (List Int)} {n:Nat} (hn:(n:Int)=s.dims) (l:List PEntry) (h0:0 < l.length) (h:SumOK s pv l):BoxOK n (boxOfL (l.map (·.vec))):=by
 revert h
 refine snoc_ind (P:=fun l=>SumOK s pv l→BoxOK n (boxOfL (l.map (·.vec)))) (fun a h=>?_) (fun l a hl ih h=>?_) l h0
 ·have he:=h.ent a (by simp)
  have:=boxOK_vec he.1
  rw [show a.vec.length=n by omega] at this
  simpa [boxOfL] using this
 ·rw [List.map_append,List.map_cons,List.map_nil,boxOfL_snoc (by simpa using hl)]
  exact (ih h.mono).grow h.last.1
def shK (s:PSchema) (p:List Int) (l:List PEntry):PShell:=l.foldl (fun sh e=>withP sh (keyV s.metric p e.vec)) ⟨keyV s.metric p (l.getD 0 default).vec,keyV s.metric p (l.getD 0 default).vec⟩
theorem shK_one (s:PSchema) (p:List Int) (e:PEntry):shK s p [e]=⟨keyV s.metric p e.vec,keyV s.metric p e.vec⟩:=by simp [shK,withP]
theorem shK_snoc {s:PSchema} {p:List Int} {l:List PEntry} {e:PEntry} (h:0 < l.length):shK s p (l ++ [e])=withP (shK s p l) (keyV s.metric p e.vec):=by
 unfold shK
 rw [List.foldl_append,getD_app h]
 rfl
theorem shK_ok {s:PSchema} {pv:List (List Int)} {p:List Int} (hp:p∈pv) (l:List PEntry) (h0:0 < l.length) (h:SumOK s pv l):shellB (shK s p l)=true:=by
 revert h
 refine snoc_ind (P:=fun l=>SumOK s pv l→shellB (shK s p l)=true) (fun a h=>?_) (fun l a hl ih h=>?_) l h0
 ·have:=keyV_bound (m:=s.metric) (h.piv p hp).1 (h.ent a (by simp)).1
  rw [shK_one,shellB_iff]
  simp only;omega
 ·have h1:=keyV_bound (m:=s.metric) (h.piv p hp).1 h.last.1
  have h2:=shellB_iff.1 (ih h.mono)
  rw [shK_snoc hl,shellB_iff]
  simp only [withP];omega
theorem keysP_get {m:Int} {pv:List (List Int)} {v:List Int} {k:Nat} (h:k < pv.length):(keysP m pv v).getD k default=keyV m (pv.getD k default) v:=by
 simp [keysP,List.getD_eq_getElem?_getD,h]
theorem range_getD {α β:Type} [Inhabited α] (l:List α) (f:α→β):(List.range l.length).map (fun k=>f (l.getD k default))=l.map f:=by
 apply List.ext_getElem?
 intro k
 simp only [List.getElem?_map]
 by_cases h:k < l.length
 ·simp [List.getElem?_range h,h]
 ·rw [List.getElem?_eq_none (by simpa using h),List.getElem?_eq_none (by omega)];rfl
theorem colI_sh {s:PSchema} {pv:List (List Int)} {l:List PEntry} {k:Nat} (hk:k < pv.length) (h0:0 < l.length):colI (tabL s.metric pv (l.map (·.vec))) k (tabL s.metric pv (l.map (·.vec))).length=shK s (pv.getD k default) l:=by
 unfold colI shK tabL
 rw [List.take_length,List.map_map,List.foldl_map]
 cases l with
 |nil=>simp at h0
 |cons e r=>
  simp only [List.map_cons,List.getD_cons_zero,Function.comp,keysP_get hk]
theorem fitB_of {l:List (List Int)} {n:Int} (h1:1≤l.length) (h2:l.length≤4096) (h:∀v∈l,vecB v=true∧(v.length:Int)=n):fitB l=true:=by
 have h0:=h _ (getD_mem (k:=0) (by omega:0 < l.length))
 simp only [fitB,Bool.and_eq_true,decide_eq_true_eq,Bool.not_eq_true',List.any_eq_false]
 refine ⟨h1,h2,fun v hv=>?_⟩
 obtain ⟨a,b⟩:=h v hv
 have:alikeB (l.getD 0 default) v=true:=by
  simp only [alikeB,h0.1,a,Bool.and_self,Bool.and_true,decide_eq_true_eq];omega
 rw [this];decide
theorem sum_tab {s:PSchema} {pv:List (List Int)} {l:List PEntry} (h:SumOK s pv l) (h0:0 < l.length) (h1:l.length≤4096) (hp:0 < pv.length):tabB s.metric pv (l.map (·.vec))=true:=by
 have f1:=fitB_of (by omega) (by have:=h.len;omega) h.piv
 have f2:fitB (l.map (·.vec))=true:=fitB_of (n:=s.dims) (by rw [List.length_map];omega) (by rw [List.length_map];omega) fun v hv=>by
  obtain ⟨e,he,rfl⟩:=List.mem_map.1 hv
  exact h.ent e he
 have p0:=h.piv _ (getD_mem hp)
 have e0:vecB ((l.map fun x:PEntry=>x.vec).getD 0 default)=true∧(((l.map fun x:PEntry=>x.vec).getD 0 default).length:Int)=s.dims:=by
  have hm:=getD_mem (l:=l.map fun x:PEntry=>x.vec) (k:=0) (by simpa using h0)
  obtain ⟨e,he,hq⟩:=List.mem_map.1 hm
  rw [←hq]
  exact h.ent e he
 simp only [tabB,pivotsB,h.met,f1,f2,Bool.true_and,alikeB,p0.1,e0.1,Bool.and_self,Bool.and_true,Bool.and_eq_true,decide_eq_true_eq]
 exact ⟨h.len,by omega⟩
theorem ofL_shells {s:PSchema} {pv:List (List Int)} {l:List PEntry} (h:SumOK s pv l) (h0:0 < l.length) (h1:l.length≤4096):(if 0 < pv.length then (shellP s.metric pv (l.map (·.vec))).1 else [])=pv.map fun p=>shK s p l:=by
 by_cases hp:0 < pv.length
 ·rw [if_pos hp,shellP,if_pos (sum_tab h h0 h1 hp)]
  simp only [shellL]
  rw [←range_getD pv fun p=>shK s p l]
  exact List.map_congr_left fun k hk=>colI_sh (by simpa using hk) h0
 ·rw [if_neg hp]
  cases pv with
  |nil=>rfl
  |cons a b=>simp at hp
theorem map_getD {α β:Type} [Inhabited α] [Inhabited β] {l:List α} (f:α→β) {k:Nat} (h:k < l.length):(l.map f).getD k default=f (l.getD k default):=by
 simp [List.getD_eq_getElem?_getD,h]
theorem joinS_map (pv:List (List Int)) (f g:List Int→PShell):joinS (pv.map f) (pv.map g)=pv.map fun p=>⟨min (min (f p).lo (g p).lo) (g p).hi,max (max (f p).hi (g p).lo) (g p).hi⟩:=by
 refine Eq.trans ?_ (range_getD pv fun p=>(⟨min (min (f p).lo (g p).lo) (g p).hi,max (max (f p).hi (g p).lo) (g p).hi⟩:PShell))
 rw [joinS,List.length_map]
 refine List.map_congr_left fun k hk=>?_
 have hk' : k < pv.length:=by simpa using hk
 rw [map_getD f hk',map_getD g hk']
theorem shellsB_map {pv:List (List Int)} {f:List Int→PShell} (h:pv.length≤8) (hf:∀p∈pv,shellB (f p)=true):shellsB (pv.map f)=true:=by
 simp only [shellsB,List.length_map,Bool.and_eq_true,decide_eq_true_eq,List.all_eq_true]
 refine ⟨fun x hx=>?_,h⟩
 obtain ⟨p,hp,rfl⟩:=List.mem_map.1 hx
 exact hf p hp
theorem tSt_snoc {l:List PEntry} {e:PEntry} (h:0 < l.length):tSt (l ++ [e])=tStep (tSt l) e:=by
 unfold tSt
 rw [List.foldl_append,getD_app h];rfl
theorem tSt_one (e:PEntry):tSt [e]=tOne e:=by simp [tSt,tStep,tOne,mnI_eq,mxI_eq]
theorem ofL_eq {s:PSchema} {pv:List (List Int)} {m:List PEntry} (h:SumOK s pv m) (hm:0 < m.length) (hl:m.length≤4096):ofL s pv m=⟨m.length,boxOfL (m.map (·.vec)),pv.map fun p=>shK s p m,(tSt m).fromLo,(tSt m).fromHi,(tSt m).toHi,(tSt m).bornLo,(tSt m).bornHi,s.defs.map fun d=>fieldOfP d m⟩:=by
 have hw:(boxOf (m.map (·.vec))).1=boxOfL (m.map (·.vec)):=by
  unfold boxOf
  rw [if_neg]
  rintro (h1|h1)
  ·simp only [List.length_map] at h1;omega
  ·rw [List.any_eq_true] at h1
   obtain ⟨v,hv,hq⟩:=h1
   obtain ⟨x,hx,rfl⟩:=List.mem_map.1 hv
   obtain ⟨a1,a2⟩:=h.ent x hx
   have hm0:=getD_mem (l:=m.map fun x:PEntry=>x.vec) (k:=0) (by simpa using hm)
   obtain ⟨y,hy,hz⟩:=List.mem_map.1 hm0
   obtain ⟨b1,b2⟩:=h.ent y hy
   unfold wrongB at hq
   rw [←hz,a1] at hq
   simp only [Bool.not_true,Bool.false_or,decide_eq_true_eq] at hq
   omega
 unfold ofL
 rw [ofL_shells h hm hl,hw]
theorem join_of {s:PSchema} {pv:List (List Int)} {l:List PEntry} {e:PEntry} (h:SumOK s pv (l ++ [e])) (h0:0 < l.length) (hl:l.length+1≤4096):joinSum joinR s (ofL s pv l) (singleP s pv e)=(ofL s pv (l ++ [e]),0):=by
 obtain ⟨e1,e2⟩:=h.last
 obtain ⟨⟨v1,v2⟩,-⟩:=vecB_get e1
 have hb:=sum_box e2 l h0 h.mono
 have hb2:boxB (boxOfL (l.map (·.vec)))=true:=hb.valid v1 v2
 have hb3:boxB ⟨e.vec,e.vec⟩=true:=(boxOK_vec e1).valid v1 v2
 rw [ofL_eq h.mono h0 (by omega),ofL_eq h (by simp) (by simpa using hl)]
 unfold joinSum singleP
 simp only
 rw [if_neg (by simp),if_neg (by omega)]
 congr 1
 congr 1
 ·simp
 ·simp only [boxJoin,hb2,hb3,Bool.true_and,hb.lo,decide_eq_true_eq]
  rw [if_pos trivial,List.map_append,List.map_cons,List.map_nil,boxOfL_snoc (by simpa using h0)]
 ·have s1:shellsB (pv.map fun p=>shK s p l)=true:=shellsB_map h.len fun p hp=>shK_ok hp l h0 h.mono
  have s2:shellsB (pv.map fun p=>(⟨keyV s.metric p e.vec,keyV s.metric p e.vec⟩:PShell))=true:=shellsB_map h.len fun p hp=>by
   have:=keyV_bound (m:=s.metric) (h.piv p hp).1 e1
   rw [shellB_iff];simp only;omega
  simp only [shJoin,s1,s2,Bool.true_and,List.length_map,decide_true,if_true]
  rw [joinS_map]
  refine List.map_congr_left fun p hp=>?_
  rw [shK_snoc h0]
  simp only [withP,PShell.mk.injEq]
  omega
 ·rw [tSt_snoc h0];rfl
 ·rw [tSt_snoc h0];rfl
 ·rw [tSt_snoc h0];rfl
 ·rw [tSt_snoc h0];rfl
 ·rw [tSt_snoc h0];rfl
 ·refine Eq.trans ?_ (range_getD s.defs fun d=>fieldOfP d (l ++ [e]))
  refine List.map_congr_left fun k hk=>?_
  have hk' : k < s.defs.length:=by simpa using hk
  rw [map_getD _ hk',map_getD _ hk',fieldOfP_snoc]
theorem ofL_one {s:PSchema} {pv:List (List Int)} {e:PEntry} (h:SumOK s pv [e]):ofL s pv [e]=singleP s pv e:=by
 obtain ⟨e1,e2⟩:=h.ent e (by simp)
 unfold ofL singleP
 rw [ofL_shells h (by simp) (by simp),tSt_one]
 congr 1
 ·simp only [List.map_cons,List.map_nil,boxOf,List.length_singleton,List.any_cons,List.any_nil,wrongB,List.getD_cons_zero,e1]
  simp [boxOfL]
 ·exact List.map_congr_left fun p _=>shK_one s p e
 ·exact List.map_congr_left fun d _=>fieldOfP_one d e
theorem refL_of {s:PSchema} {pv:List (List Int)} (l:List PEntry) (h0:0 < l.length) (h:SumOK s pv l) (hl:l.length≤4096):refL s pv l=ofL s pv l:=by
 revert h hl
 refine snoc_ind (P:=fun l=>SumOK s pv l→l.length≤4096→refL s pv l=ofL s pv l) (fun a h _=>?_) (fun l a h0 ih h hl=>?_) l h0
 ·rw [ofL_one h];rfl
 ·have hl' : l.length+1≤4096:=by simpa using hl
  have h1:=ih h.mono (by omega)
  have h2:refL s pv (l ++ [a])=(joinSum joinR s (refL s pv l) (singleP s pv a)).1:=by
   unfold refL
   rw [List.drop_append_of_le_length (by omega),List.foldl_append,getD_app h0];rfl
  rw [h2,h1,join_of h h0 hl']
end Go.Proofs.YtoamkpgaaanafaaGreat

/- The specification's vectors, keys, boxes. -/
namespace Go.Proofs.YtoamkpgaaanafaaGreat
set_option linter.unusedSimpArgs false
set_option linter.unusedVariables false
set_option linter.unnecessarySimpa false
open Go.RowKit
set_option maxRecDepth 10000 in
set_option maxHeartbeats 1000000 in
theorem pw_r4Valid (v:List Int) (hl:v.length≤1000000):PCalls Tryz.prog 71 [pints v] (· = pbool (vecB v)):=by
 refine pcalls_of_pw typeTab_ok Tryz.func71 rfl (by kernel_rfl) (by simp [low_pint,low_pints,low_pstr,low_pbool,low_pbox,low_pvecs,low_pentry,low_pentries,low_psum,low_pschema,low_pshells,low_pstrs,low_pfld,low_pdef]) (by simp [pint,pints,pstr,pbool,pbox,pvecs,pentry,pentries,psum,psumL,pschema,pshells,pstrs,pfld,pfldL,pdefL,PV.ownB]) (by rw [Tryz.ntmps71];simp) ?_
 rw [Tryz.ntmps71,Tryz.results71]
 have hres:∀k,k < v.length→farB (v.getD k default)=true→vecB v=false:=fun k hk h=>by
  have:v.any farB=true:=List.any_eq_true.2 ⟨_,getD_mem hk,h⟩
  simp [vecB,this]
 refine wk ?_
 refine PW.loop (fun k:Nat=>(bot.put 0 (pints v) |>.put 3 (pint k))) (fun k=>k≤v.length∧∀j,j < k→farB (v.getD j default)=false) (fun k=>v.length - k) 0 ⟨by omega,by simp⟩ ?_ ?_
 ·exact sb
 rintro k ⟨hk,hn⟩
 by_cases hlt:k < v.length
 ·have hr:=hres k hlt
  by_cases h1:v.getD k default < -1000
  ·refine wk ?_
   exact retP rfl (by exact lw) (by rw [hr (by rw [farB,decide_eq_true h1];rfl)];rfl)
  by_cases h2:1000 < v.getD k default
  ·refine wk ?_
   exact retP rfl (by exact lw) (by rw [hr (by simp only [farB,decide_eq_true h2,Bool.or_true])];rfl)
  refine wk ?_
  refine loopP (k+1) ⟨by omega,fun j hj=>?_⟩ (by omega) ?_
  ·rcases Nat.lt_succ_iff_lt_or_eq.1 hj with h|h
   ·exact hn j h
   ·rw [h,farB,decide_eq_false h1,decide_eq_false h2];rfl
  ·exact sb
 ·have ha:v.any farB=false:=by
   rw [List.any_eq_false]
   intro x hx
   obtain ⟨j,hj,rfl⟩:=List.getElem_of_mem hx
   have:=hn j (by omega)
   rw [getD_atW hj] at this
   rw [this];decide
  unfold vecB
  rw [ha]
  by_cases h1:1≤v.length
  ·by_cases h2:v.length≤32
   ·refine wk ?_
    exact retP rfl (by exact lw) (by simp [pbool,h1,h2])
   ·refine wk ?_
    exact retP rfl (by exact lw) (by simp [pbool,h2])
  ·refine wk ?_
   exact retP rfl (by exact lw) (by simp [pbool,h1])
set_option maxRecDepth 10000 in
set_option maxHeartbeats 1000000 in
theorem pw_r6Vector (v:List Int) (hl:v.length≤1000000):PCalls Tryz.prog 148 [pints v] (· = pbool (vecB v)):=by
 refine pcalls_of_pw typeTab_ok Tryz.func148 rfl (by kernel_rfl) (by simp [low_pint,low_pints,low_pstr,low_pbool,low_pbox,low_pvecs,low_pentry,low_pentries,low_psum,low_pschema,low_pshells,low_pstrs,low_pfld,low_pdef]) (by simp [pint,pints,pstr,pbool,pbox,pvecs,pentry,pentries,psum,psumL,pschema,pshells,pstrs,pfld,pfldL,pdefL,PV.ownB]) (by rw [Tryz.ntmps148];simp) ?_
 rw [Tryz.ntmps148,Tryz.results148]
 have hres:∀k,k < v.length→farB (v.getD k default)=true→vecB v=false:=fun k hk h=>by
  have:v.any farB=true:=List.any_eq_true.2 ⟨_,getD_mem hk,h⟩
  simp [vecB,this]
 refine wk ?_
 refine PW.loop (fun k:Nat=>(bot.put 0 (pints v) |>.put 3 (pint k))) (fun k=>k≤v.length∧∀j,j < k→farB (v.getD j default)=false) (fun k=>v.length - k) 0 ⟨by omega,by simp⟩ ?_ ?_
 ·exact sb
 rintro k ⟨hk,hn⟩
 by_cases hlt:k < v.length
 ·have hr:=hres k hlt
  by_cases h1:v.getD k default < -1000
  ·refine wk ?_
   exact retP rfl (by exact lw) (by rw [hr (by rw [farB,decide_eq_true h1];rfl)];rfl)
  by_cases h2:1000 < v.getD k default
  ·refine wk ?_
   exact retP rfl (by exact lw) (by rw [hr (by simp only [farB,decide_eq_true h2,Bool.or_true])];rfl)
  refine wk ?_
  refine loopP (k+1) ⟨by omega,fun j hj=>?_⟩ (by omega) ?_
  ·rcases Nat.lt_succ_iff_lt_or_eq.1 hj with h|h
   ·exact hn j h
   ·rw [h,farB,decide_eq_false h1,decide_eq_false h2];rfl
  ·exact sb
 ·have ha:v.any farB=false:=by
   rw [List.any_eq_false]
   intro x hx
   obtain ⟨j,hj,rfl⟩:=List.getElem_of_mem hx
   have:=hn j (by omega)
   rw [getD_atW hj] at this
   rw [this];decide
  unfold vecB
  rw [ha]
  by_cases h1:1≤v.length
  ·by_cases h2:v.length≤32
   ·refine wk ?_
    exact retP rfl (by exact lw) (by simp [pbool,h1,h2])
   ·refine wk ?_
    exact retP rfl (by exact lw) (by simp [pbool,h2])
  ·refine wk ?_
   exact retP rfl (by exact lw) (by simp [pbool,h1])
set_option maxRecDepth 10000 in
theorem pw_r4size (n:Int) (h:Small30 n):PCalls Tryz.prog 242 [pint n] (· = pint (absI n)):=by
 refine pcalls_of_pw typeTab_ok Tryz.func242 rfl (by kernel_rfl) (by simp [low_pint,low_pints,low_pstr,low_pbool,low_pbox,low_pvecs,low_pentry,low_pentries,low_psum,low_pschema,low_pshells,low_pstrs,low_pfld,low_pdef]) (by simp [pint,pints,pstr,pbool,pbox,pvecs,pentry,pentries,psum,psumL,pschema,pshells,pstrs,pfld,pfldL,pdefL,PV.ownB]) (by rw [Tryz.ntmps242];simp) ?_
 rw [Tryz.ntmps242,Tryz.results242]
 obtain ⟨h1,h2⟩:=h
 unfold absI
 by_cases h:n < 0
 ·rw [show max n (-n) = -n by omega]
  refine wk ?_
  refine retP rfl (by exact lw) ?_
  show PV.val (.int .i64 (IntKind.i64.wrap (0 - n)))=pint (-n)
  rw [wrap64_id (by omega) (by omega),Int.zero_sub];rfl
 ·rw [show max n (-n)=n by omega]
  refine wk ?_
  exact retP rfl (by exact lw) rfl
set_option maxRecDepth 10000 in
set_option maxHeartbeats 1000000 in
theorem pw_r4Sub (a b:List Int) (h1:a.length≤1000000) (h2:a.length≤b.length) (h3:b.length≤1000000) (ha:∀k,-1000000≤a.getD k default∧a.getD k default≤1000000) (hb:∀k,-1000000≤b.getD k default∧b.getD k default≤1000000):PCalls Tryz.prog 183 [pints a,pints b] (· = pints (zipI subI a b)):=by
 refine PCalls.weak ?_
 refine pcalls_of_pw typeTab_ok Tryz.func183 rfl (by kernel_rfl) (by simp [low_pint,low_pints,low_pstr,low_pbool,low_pbox,low_pvecs,low_pentry,low_pentries,low_psum,low_pschema,low_pshells,low_pstrs,low_pfld,low_pdef]) (by simp [pint,pints,pstr,pbool,pbox,pvecs,pentry,pentries,psum,psumL,pschema,pshells,pstrs,pfld,pfldL,pdefL,PV.ownB]) (by rw [Tryz.ntmps183];simp) ?_
 rw [Tryz.ntmps183,Tryz.results183]
 refine wk ?_
 refine PW.loop (fun k:Nat=>(bot.put 0 (pints a) |>.put 1 (pints b) |>.put 5 (.sl k 1 (((zipI subI a b).take k).map pint) (some 3)) |>.put 6 (pint k))) (fun k=>k≤a.length) (fun k=>a.length - k) 0 (by omega) ?_ ?_
 ·exact sb
 intro k hk
 by_cases hlt:k < a.length
 ·obtain ⟨a1,a2⟩:=ha k
  obtain ⟨b1,b2⟩:=hb k
  refine wk ?_
  refine loopP (k+1) (by omega) (by omega) ?_
  have e:((zipI subI a b).take (k+1)).map pint=((zipI subI a b).take k).map pint ++ [pint (subI (a.getD k default) (b.getD k default))]:=by
   rw [zipI_take hlt,List.map_append];rfl
  simp only [e]
  have hl:=low_intsapp (k+1) ((zipI subI a b).take k) (subI (a.getD k default) (b.getD k default)) (some 3)
  exact sb
 ·have hkk:k=a.length:=by omega
  have e:(zipI subI a b).take k=zipI subI a b:=List.take_of_length_le (by rw [zipI_len];omega)
  simp only [e]
  refine wk ?_
  refine retP (r:=.sl k 1 ((zipI subI a b).map pint) none) rfl (low_ints _ _ _) ?_
  rw [hkk,←zipI_len subI a b]
  exact Weak.refl _
set_option maxRecDepth 10000 in
set_option maxHeartbeats 2000000 in
theorem pw_r4Norm (m:Int) (v:List Int) (hm:keyB m=true) (hl:v.length≤1000) (hv:∀k,-5000≤v.getD k default∧v.getD k default≤5000):PCalls Tryz.prog 182 [pint m,pints v] (· = pint (normI m v)):=by
 have hv' : ∀d∈v,-5000≤d∧d≤5000:=fun d hd=>by
  obtain ⟨j,hj,rfl⟩:=List.getElem_of_mem hd
  have:=hv j
  rwa [getD_atW hj] at this
 have hsm:∀k,Small30 ((v.take k).foldl (fun n x=>addM m n (absI x)) 0):=fun k=>norm_small (fun d h=>hv' d (List.mem_of_mem_take h)) (by simp;omega)
 refine pcalls_of_pw typeTab_ok Tryz.func182 rfl (by kernel_rfl) (by simp [low_pint,low_pints,low_pstr,low_pbool,low_pbox,low_pvecs,low_pentry,low_pentries,low_psum,low_pschema,low_pshells,low_pstrs,low_pfld,low_pdef]) (by simp [pint,pints,pstr,pbool,pbox,pvecs,pentry,pentries,psum,psumL,pschema,pshells,pstrs,pfld,pfldL,pdefL,PV.ownB]) (by rw [Tryz.ntmps182];simp) ?_
 rw [Tryz.ntmps182,Tryz.results182]
 rw [←normI_eq]
 simp only [keyB,Bool.and_eq_true,decide_eq_true_eq] at hm
 refine wk ?_
 refine PW.loop (fun k:Nat=>(bot.put 0 (pint m) |>.put 1 (pints v) |>.put 5 (pint ((v.take k).foldl (fun n x=>addM m n (absI x)) 0)) |>.put 6 (pint k))) (fun k=>k≤v.length) (fun k=>v.length - k) 0 (by omega) ?_ ?_
 ·exact sb
 intro k hk
 by_cases hlt:k < v.length
 ·obtain ⟨v1,v2⟩:=hv k
  have hs:=pw_r4size (v.getD k default) ⟨by omega,by omega⟩
  obtain ⟨s1,s2⟩:=hsm k
  have ab:=absI_bound (hv k)
  have sq:=sq_bound v1 v2
  have e:=foldl_take (fun n x=>addM m n (absI x)) 0 v hlt
  generalize (v.take k).foldl (fun n x=>addM m n (absI x)) 0=n at *
  rcases (show m=1∨m=2∨m=3 by omega) with rfl|rfl|rfl
  ·have e2:addM 1 n (absI (v.getD k default))=n+absI (v.getD k default):=rfl
   refine wk ?_
   refine loopP (k+1) (by omega) (by omega) ?_
   simp only [e,e2]
   exact sb
  ·have e2:addM 2 n (absI (v.getD k default))=n+v.getD k default * v.getD k default:=by rw [←absI_sq];rfl
   rw [e2] at e
   refine wk ?_
   refine loopP (k+1) (by omega) (by omega) ?_
   simp only [e]
   exact sb
  ·have e2:addM 3 n (absI (v.getD k default))=(if absI (v.getD k default) > n then absI (v.getD k default) else n):=by
    show max n (absI (v.getD k default))=_
    split<;>omega
   rw [e2] at e
   refine wk ?_
   refine loopP (k+1) (by omega) (by omega) ?_
   simp only [e]
   exact sb
 ·have e:v.take k=v:=List.take_of_length_le (by omega)
  simp only [e]
  refine wk ?_
  exact retP rfl (by exact lw) rfl
set_option maxRecDepth 10000 in
theorem pw_r4Key (m:Int) (a b:List Int) (hm:keyB m=true) (ha:vecB a=true) (hb:vecB b=true) (hl:a.length=b.length):PCalls Tryz.prog 96 [pint m,pints a,pints b] (· = pint (keyV m a b)):=by
 obtain ⟨⟨a1,a2⟩,a3⟩:=vecB_get ha
 obtain ⟨⟨b1,b2⟩,b3⟩:=vecB_get hb
 have h1:=pw_r4Sub a b (by omega) (by omega) (by omega) (fun k=>by have:=a3 k;omega) (fun k=>by have:=b3 k;omega)
 have h2:=pw_r4Norm m (zipI subI a b) hm (by rw [zipI_len];omega) (fun k=>by
  rcases Nat.lt_or_ge k a.length with hk|hk
  ·rw [zipI_get hk]
   have:=a3 k
   have:=b3 k
   unfold subI;omega
  ·rw [List.getD_eq_getElem?_getD,List.getElem?_eq_none (by rw [zipI_len];omega)];decide)
 refine pcalls_of_pw typeTab_ok Tryz.func96 rfl (by kernel_rfl) (by simp [low_pint,low_pints,low_pstr,low_pbool,low_pbox,low_pvecs,low_pentry,low_pentries,low_psum,low_pschema,low_pshells,low_pstrs,low_pfld,low_pdef]) (by simp [pint,pints,pstr,pbool,pbox,pvecs,pentry,pentries,psum,psumL,pschema,pshells,pstrs,pfld,pfldL,pdefL,PV.ownB]) (by rw [Tryz.ntmps96];simp) ?_
 rw [Tryz.ntmps96,Tryz.results96]
 unfold keyV
 refine wk ?_
 exact retP rfl (by exact lw) rfl
end Go.Proofs.YtoamkpgaaanafaaGreat
