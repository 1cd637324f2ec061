/- Out of: Zu. -/
import Derived.Test.YtoamkpgaaanafaaGreatM14
import Derived.Test.YtoamkpgaaanafaaGreatM26
import Derived.Test.YtoamkpgaaanafaaGreatM27
namespace Go.Proofs.YtoamkpgaaanafaaGreat
set_option linter.unusedSimpArgs false
set_option linter.unusedVariables false
set_option linter.unnecessarySimpa false
section
open Go.RowKit
def obeyF (d:PDef) (f:PField) (count:Int) (e:PEntry):Bool:=
 if (getA e.attrs d.name).2=false then !decide (f.has=count)
 else if f.has=0 then false
 else if d.kind=1 then withinB (getA e.attrs d.name).1.n f.lo f.hi
 else if d.kind=2 then hasB f.words (getA e.attrs d.name).1.s else true
def obeyK (s:PSchema) (pv:List (List Int)) (z:PSum) (e:PEntry) (k:Nat):Bool:=withinB (keyV s.metric (pv.getD k default) e.vec) (z.shells.getD k default).lo (z.shells.getD k default).hi
def obeysZ (s:PSchema) (pv:List (List Int)) (z:PSum) (e:PEntry):Bool:=
 decide (entryA s e=0) && (boxHas z.box e.vec && (decide (z.shells.length=pv.length) && ((List.range pv.length).all (obeyK s pv z e) && (withinB e.frm z.fromLo z.fromHi && (decide (e.to≤z.toHi) && (withinB e.born z.bornLo z.bornHi &&
  (List.range s.defs.length).all fun k=>obeyF (s.defs.getD k default) (z.fields.getD k default) z.count e))))))
theorem low_pattrL2 (a:PAttr):∀c∈pattrL a,Low c:=by
 intro c hc
 simp only [pattrL,List.mem_cons,List.not_mem_nil,or_false] at hc
 rcases hc with rfl|rfl|rfl|rfl<;>exact .val _
set_option maxRecDepth 10000 in
set_option maxHeartbeats 16000000 in
theorem pw_obeys (s:PSchema) (pv:List (List Int)) (z:PSum) (e:PEntry) (hz:SmallZ z) (hs:SmallS s) (hv:e.vec.length≤1000000) (ha:e.attrs.length≤1000000) (hm:keyB s.metric=true)
  (h1:pv.length≤1000000) (hp:∀k,k < pv.length→vecB (pv.getD k default)=true∧((pv.getD k default).length:Int)=s.dims) (he:entryA s e=0→vecB e.vec=true∧(e.vec.length:Int)=s.dims) (hf:s.defs.length≤z.fields.length) :
  PCalls Tryz.prog 22 [pschema s,pvecs pv,psum z,pentry e] (· = pbool (obeysZ s pv z e)):=by
 obtain ⟨z1,z2,z3,z4,z5⟩:=hz
 have h0:s.defs.length≤1000:=hs.1
 have c1:=pcEntry s e hs hv ha
 have c2:=pw_boxHas z.box e.vec (by omega) (by omega) (by omega)
 have hlz:=low_psumL z
 have hls:=low_schCells s
 have hle:=low_entCells e
 have hlz1:Low (.ep (psumL z) 0):=.ep _ _ hlz
 have hls1:Low (.ep (schCellsP s) 0):=.ep _ _ hls
 have hle1:Low (.ep (entCellsP e) 0):=.ep _ _ hle
 have hlow:∀x,Low (pvecs x):=fun x=>(low_pvecs x).2 trivial
 have hlow2:∀x,Low (pdefs x):=fun x=>(low_pdefs x).2 trivial
 have hld:=hlow2 s.defs
 have f:∀v,obeysZ s pv z e=v→pbool v=pbool (obeysZ s pv z e):=fun v h=>by rw [h]
 refine pcalls_of_pw typeTab_ok Tryz.func22 rfl (by kernel_rfl) (by simp [low_psum,low_pschema,low_pvecs,low_pentry]) (by simp [psum,psumL,pschema,pvecs,pentry,PV.ownB]) (by rw [Tryz.ntmps22];simp) ?_
 rw [Tryz.ntmps22,Tryz.results22]
 refine PW.seq ?_
 refine PW.region typeTab_ok (by kernel_rfl) ?_
 refine wg ?_
 refine PW.freezeP (id:=0) (s:=4) (off:=0) (σ':=(((((bot.setb 1 (psumL z)).setb 2 (entCellsP e)).put 1 (pvecs pv)).put 6 (.ptr 1 0)).put 7 (.ptr 2 0))) rfl rfl hls (by exact sbr0) rfl ?_
 refine PW.freezeP (id:=1) (s:=6) (off:=0) (σ':=((((bot.setb 2 (entCellsP e)).put 1 (pvecs pv)).put 4 (.ep (schCellsP s) 0)).put 7 (.ptr 2 0))) rfl rfl hlz (by exact sbr0) rfl ?_
 refine PW.freezeP (id:=2) (s:=7) (off:=0) (σ':=(((bot.put 1 (pvecs pv)).put 4 (.ep (schCellsP s) 0)).put 6 (.ep (psumL z) 0))) rfl rfl hle (by exact sbr0) rfl ?_
 refine PW.scope ?_
 by_cases e0:entryA s e=0
 rotate_left
 ·refine wk ?_
  refine scopeP_ret ?_
  exact retP rfl (by exact lw) (f _ (by simp only [obeysZ,decide_eq_false e0,Bool.false_and,Bool.and_false]))
 obtain ⟨v1,v2⟩:=he e0
 cases e1:boxHas z.box e.vec with
 |false=>
  rw [e1] at c2
  refine wk ?_
  refine scopeP_ret ?_
  exact retP rfl (by exact lw) (f _ (by simp only [obeysZ,e1,Bool.false_and,Bool.and_false]))
 |true=>
  rw [e1] at c2
  by_cases e2:z.shells.length=pv.length
  rotate_left
  ·refine wk ?_
   refine scopeP_ret ?_
   exact retP rfl (by exact lw) (f _ (by simp only [obeysZ,decide_eq_false e2,Bool.false_and,Bool.and_false]))
  refine wk ?_
  refine PW.label ?_
  refine wk ?_
  clear c1 c2
  refine PW.loop (fun k:Nat=>(((((((bot.put 4 (.ep (schCellsP s) 0)).put 6 (.ep (psumL z) 0)).put 7 (.ep (entCellsP e) 0)).put 9 (pbool true)).put 38 (pvecs pv)).put 39 (pint pv.length)).put 40 (pint k))) (fun k=>k≤pv.length∧∀j,j < k→obeyK s pv z e j=true) (fun k=>pv.length - k) 0 ⟨by omega,by simp⟩ ?_ ?_
  ·exact sb
  rintro k ⟨hk,hall⟩
  by_cases hlt:k < pv.length
  ·obtain ⟨b1,b2⟩:=hp k hlt
   have p1:=pw_vecKey s.metric (pv.getD k default) e.vec hm b1 v1 (by omega)
   have p2:=pw_isWithin (keyV s.metric (pv.getD k default) e.vec) (z.shells.getD k default).lo (z.shells.getD k default).hi
   cases e3:obeyK s pv z e k with
   |false=>
    have hb:(List.range pv.length).all (obeyK s pv z e)=false:=by
     rw [List.all_eq_false];exact ⟨k,by simp [hlt],by rw [e3];decide⟩
    unfold obeyK at e3
    rw [e3] at p2
    refine wk ?_
    refine scopeP_ret ?_
    exact retP rfl (by exact lw) (f _ (by simp only [obeysZ,hb,Bool.false_and,Bool.and_false]))
   |true=>
    have hI:k+1≤pv.length∧∀j,j < k+1→obeyK s pv z e j=true:=⟨by omega,fun j hj=>by
     rcases Nat.lt_succ_iff_lt_or_eq.1 hj with h|h
     ·exact hall j h
     ·rw [h];exact e3⟩
    unfold obeyK at e3
    rw [e3] at p2
    refine wk ?_
    refine loopP (k+1) ?_ ?_ ?_
    ·exact hI
    ·omega
    ·exact sb
  have e4:(List.range pv.length).all (obeyK s pv z e)=true:=by
   rw [List.all_eq_true];intro j hj;exact hall j (by simp at hj;omega)
  have hw5:=pw_isWithin e.frm z.fromLo z.fromHi
  have hw6:=pw_isWithin e.born z.bornLo z.bornHi
  cases e5:withinB e.frm z.fromLo z.fromHi with
  |false=>
   rw [e5] at hw5
   refine wk ?_
   refine scopeP_ret ?_
   exact retP rfl (by exact lw) (f _ (by simp only [obeysZ,e5,Bool.false_and,Bool.and_false]))
  |true=>
   rw [e5] at hw5
   by_cases e6:e.to≤z.toHi
   rotate_left
   ·refine wk ?_
    refine scopeP_ret ?_
    exact retP rfl (by exact lw) (f _ (by simp only [obeysZ,decide_eq_false e6,Bool.false_and,Bool.and_false]))
   cases e7:withinB e.born z.bornLo z.bornHi with
   |false=>
    rw [e7] at hw6
    refine wk ?_
    refine scopeP_ret ?_
    exact retP rfl (by exact lw) (f _ (by simp only [obeysZ,e7,Bool.false_and,Bool.and_false]))
   |true=>
    rw [e7] at hw6
    refine wk ?_
    clear hw5 hw6
    refine PW.loop (fun k:Nat=>((((((bot.put 4 (.ep (schCellsP s) 0)).put 6 (.ep (psumL z) 0)).put 7 (.ep (entCellsP e) 0)).put 98 (pdefs s.defs)).put 99 (pint s.defs.length)).put 100 (pint k))) (fun k=>k≤s.defs.length∧∀j,j < k→obeyF (s.defs.getD j default) (z.fields.getD j default) z.count e=true) (fun k=>s.defs.length - k) 0 ⟨by omega,by simp⟩ ?_ ?_
    ·exact sb
    rintro k ⟨hk2,hall2⟩
    by_cases hlt2:k < s.defs.length
    ·have hb:obeyF (s.defs.getD k default) (z.fields.getD k default) z.count e=false→obeysZ s pv z e=false:=fun h=>by
      have:((List.range s.defs.length).all fun k=>obeyF (s.defs.getD k default) (z.fields.getD k default) z.count e)=false:=by
       rw [List.all_eq_false];exact ⟨k,by simp [hlt2],by rw [h];decide⟩
      simp only [obeysZ,this,Bool.and_false]
     have hI:obeyF (s.defs.getD k default) (z.fields.getD k default) z.count e=true→k+1≤s.defs.length∧∀j,j < k+1→obeyF (s.defs.getD j default) (z.fields.getD j default) z.count e=true:=fun h=>⟨by omega,fun j hj=>by
      rcases Nat.lt_succ_iff_lt_or_eq.1 hj with h2|h2
      ·exact hall2 j h2
      ·rw [h2];exact h⟩
     have p1:=pcGet e.attrs (s.defs.getD k default).name ha
     have p2:=pw_isWithin (getA e.attrs (s.defs.getD k default).name).1.n (z.fields.getD k default).lo (z.fields.getD k default).hi
     have p3:=pc_containsS (z.fields.getD k default).words (getA e.attrs (s.defs.getD k default).name).1.s (by have:=z5 k;omega)
     have hd1:=low_pdefL (s.defs.getD k default)
     have hd2:=low_pfldL (z.fields.getD k default)
     have hd3:=low_pattrL2 (getA e.attrs (s.defs.getD k default).name).1
     unfold obeyF at hb hI
     cases q0:(getA e.attrs (s.defs.getD k default).name).2 with
     |false=>
      rw [if_pos q0] at hb hI
      rw [q0] at p1
      by_cases q1:(z.fields.getD k default).has=z.count
      ·refine wk ?_
       refine scopeP_ret ?_
       exact retP rfl (by exact lw) (f _ (hb (by simp only [decide_eq_true q1];rfl)))
      ·refine wk ?_
       refine loopP (k+1) ?_ ?_ ?_
       ·exact hI (by simp only [decide_eq_false q1];rfl)
       ·omega
       ·exact sb
     |true=>
      rw [if_neg (by rw [q0];decide)] at hb hI
      rw [q0] at p1
      by_cases q1:(z.fields.getD k default).has=0
      ·rw [if_pos q1] at hb hI
       refine wk ?_
       refine scopeP_ret ?_
       exact retP rfl (by exact lw) (f _ (hb rfl))
      ·rw [if_neg q1] at hb hI
       by_cases q2:(s.defs.getD k default).kind=1
       ·rw [if_pos q2] at hb hI
        cases q3:withinB (getA e.attrs (s.defs.getD k default).name).1.n (z.fields.getD k default).lo (z.fields.getD k default).hi with
        |false=>
         rw [q3] at p2
         refine wk ?_
         refine scopeP_ret ?_
         exact retP rfl (by exact lw) (f _ (hb q3))
        |true=>
         rw [q3] at p2
         refine wk ?_
         refine loopP (k+1) ?_ ?_ ?_
         ·exact hI q3
         ·omega
         ·exact sb
       ·rw [if_neg q2] at hb hI
        by_cases q4:(s.defs.getD k default).kind=2
        ·rw [if_pos q4] at hb hI
         cases q5:hasB (z.fields.getD k default).words (getA e.attrs (s.defs.getD k default).name).1.s with
         |false=>
          rw [q5] at p3
          refine wk ?_
          refine scopeP_ret ?_
          exact retP rfl (by exact lw) (f _ (hb q5))
         |true=>
          rw [q5] at p3
          refine wk ?_
          refine loopP (k+1) ?_ ?_ ?_
          ·exact hI q5
          ·omega
          ·exact sb
        ·rw [if_neg q4] at hb hI
         refine wk ?_
         refine loopP (k+1) ?_ ?_ ?_
         ·exact hI rfl
         ·omega
         ·exact sb
    ·refine wk ?_
     refine scopeP_ret ?_
     refine retP rfl (by exact lw) (f _ ?_)
     have:((List.range s.defs.length).all fun k=>obeyF (s.defs.getD k default) (z.fields.getD k default) z.count e)=true:=by
      rw [List.all_eq_true];intro j hj;exact hall2 j (by simp at hj;omega)
     simp only [obeysZ,e0,e1,e2,e4,e5,e6,e7,this,decide_true,Bool.and_self]
end
end Go.Proofs.YtoamkpgaaanafaaGreat
