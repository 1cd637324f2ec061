/- Out of: Zs. -/
import Derived.Test.YtoamkpgaaanafaaGreatM26
import Derived.Test.YtoamkpgaaanafaaGreatM27
namespace Go.Proofs.YtoamkpgaaanafaaGreat
set_option linter.unusedSimpArgs false
set_option linter.unusedVariables false
set_option linter.unnecessarySimpa false
section
open Go.RowKit
set_option maxRecDepth 10000 in
theorem pw_fields (s:PSchema) (a b:PSum):PCalls Tryz.prog 102 [pschema s,psum a,psum b] (· = .fn 184 [.ep (schCellsP s) 0, .ep (psumL a) 0, .ep (psumL b) 0]):=by
 have hlow1:Low (.ep (schCellsP s) 0):=.ep _ _ (low_schCells s)
 have hlow2:Low (.ep (psumL a) 0):=.ep _ _ (low_psumL a)
 have hlow3:Low (.ep (psumL b) 0):=.ep _ _ (low_psumL b)
 have hla:=low_psumL a
 have hlb:=low_psumL b
 refine pcalls_of_pw typeTab_ok Tryz.func102 rfl (by kernel_rfl) (by simp [low_pschema,low_psum]) (by simp [pschema,psum,PV.ownB]) (by rw [Tryz.ntmps102];simp) ?_
 rw [Tryz.ntmps102,Tryz.results102]
 refine PW.seq ?_
 refine PW.region typeTab_ok (by kernel_rfl) ?_
 refine wg ?_
 refine PW.freezeP (id:=0) (s:=3) (off:=0) (σ':=(((bot.setb 1 (psumL a)).setb 2 (psumL b)).put 4 (.ptr 1 0)).put 5 (.ptr 2 0)) rfl rfl (low_schCells s) (by exact sbr0) rfl ?_
 refine PW.freezeP (id:=1) (s:=4) (off:=0) (σ':=((bot.setb 2 (psumL b)).put 3 (.ep (schCellsP s) 0)).put 5 (.ptr 2 0)) rfl rfl (low_psumL a) (by exact sbr0) rfl ?_
 refine PW.freezeP (id:=2) (s:=5) (off:=0) (σ':=(bot.put 3 (.ep (schCellsP s) 0)).put 4 (.ep (psumL a) 0)) rfl rfl (low_psumL b) (by exact sbr0) rfl ?_
 refine wk ?_
 exact retP rfl (by simp [low_fn,hlow1,hlow2,hlow3]) rfl
set_option maxRecDepth 10000 in
theorem pw_alien (w:ByteArray) (y:PField) (h:y.words.length≤1000000):PCalls Tryz.prog 103 [pstr w, .ep (pfldL y) 0] (· = pbool (!hasB y.words w)):=by
 have hc:=pc_containsS y.words w (by omega)
 have hlow1:Low (.ep (pfldL y) 0):=.ep _ _ (low_pfldL y)
 refine pcalls_of_pw typeTab_ok Tryz.func103 rfl (by kernel_rfl) (by simp [low_pstr,hlow1]) (by simp [pstr,PV.ownB]) (by rw [Tryz.ntmps103];simp) ?_
 rw [Tryz.ntmps103,Tryz.results103]
 cases e:hasB y.words w <;>
 ·rw [e] at hc
  refine wk ?_
  exact retP rfl (by exact lw) rfl
def badF (ca cb:Int) (x y:PField):Bool:=decide (y.has < x.has) || (decide (cb - y.has < ca - x.has) || (decide (0 < x.has) && (decide (x.lo < y.lo) || (decide (y.hi < x.hi) || x.words.any fun w => !hasB y.words w))))
def shellOut (a b:PSum) (k:Nat):Bool:=decide ((b.shells.getD k default).lo≤(a.shells.getD k default).lo) && decide ((a.shells.getD k default).hi≤(b.shells.getD k default).hi)
def withinZ (s:PSchema) (a b:PSum):Bool:=
 decide (a.count≤b.count) && (boxIn a.box b.box && (decide (a.shells.length=b.shells.length) && ((List.range a.shells.length).all (shellOut a b) && (decide (b.fromLo≤a.fromLo) && (decide (a.fromHi≤b.fromHi) && (decide (a.toHi≤b.toHi) && (decide (b.bornLo≤a.bornLo) && (decide (a.bornHi≤b.bornHi) &&
  (List.range s.defs.length).all fun k => !badF a.count b.count (a.fields.getD k default) (b.fields.getD k default)))))))))
def CountZ (z:PSum):Prop:=(-1000000≤z.count∧z.count≤1000000)∧∀k,-1000000≤(z.fields.getD k default).has∧(z.fields.getD k default).has≤1000000
theorem part_fld {s:PSchema} {a b:PSum} {pre:List (List PV)} {x:List PV} (h:Part (fldsL s a b) (pre ++ [x])):∃k,k < s.defs.length∧x=fldR s a b k∧pre=(fldsL s a b).take k:=by
 obtain ⟨k,hk⟩:=h
 have hl:pre.length+1=min k (fldsL s a b).length:=by
  have:=congrArg List.length hk
  simpa using this
 have hj:pre.length < s.defs.length:=by rw [fldsL_len] at hl;omega
 refine ⟨pre.length,hj,?_,?_⟩
 ·have h1:(pre ++ [x])[pre.length]? = some x:=by simp
  rw [hk,List.getElem?_take,if_pos (by omega)] at h1
  simp only [fldsL,List.getElem?_map,List.getElem?_range hj,Option.map_some,Option.some.injEq] at h1
  exact h1.symm
 ·have h1:pre=(pre ++ [x]).take pre.length:=by simp
  rw [hk,List.take_take] at h1
  rwa [show min pre.length k=pre.length by omega] at h1
set_option maxRecDepth 10000 in
set_option maxHeartbeats 16000000 in
theorem pw_within (s:PSchema) (a b:PSum) (ha:SmallZ a) (hb:SmallZ b) (ca:CountZ a) (cb:CountZ b) (h0:s.defs.length≤1000000) (h1:s.defs.length≤a.fields.length) (h2:s.defs.length≤b.fields.length):PCalls Tryz.prog 39 [pschema s,psum a,psum b] (· = pbool (withinZ s a b)):=by
 obtain ⟨x1,x2,x3,x4,x5⟩:=ha
 obtain ⟨y1,y2,y3,y4,y5⟩:=hb
 obtain ⟨ca1,ca2⟩:=ca
 obtain ⟨cb1,cb2⟩:=cb
 have c1:=pw_boxIn a.box b.box (by omega) (by omega) (by omega) (by omega)
 have c2:=pw_fields s a b
 have hla:=low_psumL a
 have hlb:=low_psumL b
 have hls:=low_schCells s
 have hles:Low (.ep (schCellsP s) 0):=.ep _ _ hls
 have hlfa0:∀v:Bool,∀c ∈ [pbool v],Low c:=fun v c hc=>by simp only [List.mem_cons,List.not_mem_nil,or_false] at hc;subst hc;exact .val _
 have hlf1:=hlfa0 false
 have hlow:∀x,Low (pshells x):=fun x=>(low_pshells x).2 trivial
 have hlea:Low (.ep (psumL a) 0):=.ep _ _ hla
 have hleb:Low (.ep (psumL b) 0):=.ep _ _ hlb
 have f:∀v,withinZ s a b=v→pbool v=pbool (withinZ s a b):=fun v h=>by rw [h]
 refine pcalls_of_pw typeTab_ok Tryz.func39 rfl (by kernel_rfl) (by simp [low_psum,low_pschema]) (by simp [psum,psumL,pschema,PV.ownB]) (by rw [Tryz.ntmps39];simp) ?_
 rw [Tryz.ntmps39,Tryz.results39]
 refine PW.seq ?_
 refine PW.region typeTab_ok (by kernel_rfl) ?_
 refine wg ?_
 refine PW.freezeP (id:=0) (s:=3) (off:=0) (σ':=(((((bot.setb 1 (psumL a)).setb 2 (psumL b)).setb 3 [pbool false]).put 4 (.ptr 1 0)).put 5 (.ptr 2 0)).put 6 (.ptr 3 0)) rfl rfl hls (by exact sbr0) rfl ?_
 refine PW.freezeP (id:=1) (s:=4) (off:=0) (σ':=((((bot.setb 2 (psumL b)).setb 3 [pbool false]).put 3 (.ep (schCellsP s) 0)).put 5 (.ptr 2 0)).put 6 (.ptr 3 0)) rfl rfl hla (by exact sbr0) rfl ?_
 refine PW.freezeP (id:=2) (s:=5) (off:=0) (σ':=(((bot.setb 3 [pbool false]).put 3 (.ep (schCellsP s) 0)).put 4 (.ep (psumL a) 0)).put 6 (.ptr 3 0)) rfl rfl hlb (by exact sbr0) rfl ?_
 unfold pbox pboxL at c1
 by_cases e0:a.count≤b.count
 rotate_left
 ·refine wk ?_
  exact retP rfl (by exact lw) (f _ (by simp only [withinZ,decide_eq_false e0,Bool.false_and,Bool.and_false]))
 cases e1:boxIn a.box b.box with
 |false=>
  rw [e1] at c1
  refine wk ?_
  exact retP rfl (by exact lw) (f _ (by simp only [withinZ,e1,Bool.false_and,Bool.and_false]))
 |true=>
  rw [e1] at c1
  by_cases e2:a.shells.length=b.shells.length
  rotate_left
  ·refine wk ?_
   exact retP rfl (by exact lw) (f _ (by simp only [withinZ,decide_eq_false e2,Bool.false_and,Bool.and_false]))
  refine wk ?_
  clear c1
  refine PW.loop (fun k:Nat=>((((((((bot.setb 3 [pbool false]).put 3 (.ep (schCellsP s) 0)).put 4 (.ep (psumL a) 0)).put 5 (.ep (psumL b) 0)).put 6 (.ptr 3 0)).put 37 (pshells a.shells)).put 38 (pint a.shells.length)).put 39 (pint k))) (fun k=>k≤a.shells.length∧∀j,j < k→shellOut a b j=true) (fun k=>a.shells.length - k) 0 ⟨by omega,by simp⟩ ?_ ?_
  ·exact sb
  rintro k ⟨hk,hall⟩
  by_cases hlt:k < a.shells.length
  ·have hbad:shellOut a b k=false→(List.range a.shells.length).all (shellOut a b)=false:=fun h=>by
    rw [List.all_eq_false];exact ⟨k,by simp [hlt],by rw [h];decide⟩
   by_cases g1:(b.shells.getD k default).lo≤(a.shells.getD k default).lo
   ·by_cases g2:(a.shells.getD k default).hi≤(b.shells.getD k default).hi
    ·refine wk ?_
     have hI:k+1≤a.shells.length∧∀j,j < k+1→shellOut a b j=true:=⟨by omega,fun j hj=>by
      rcases Nat.lt_succ_iff_lt_or_eq.1 hj with h|h
      ·exact hall j h
      ·rw [h];simp only [shellOut,g1,g2,decide_true,Bool.and_self]⟩
     refine loopP (k+1) ?_ ?_ ?_
     ·exact hI
     ·omega
     ·exact sb
    ·have hb:=hbad (by simp only [shellOut,decide_eq_false g2,Bool.and_false])
     refine wk ?_
     exact retP rfl (by exact lw) (f _ (by simp only [withinZ,hb,Bool.false_and,Bool.and_false]))
   ·have hb:=hbad (by simp only [shellOut,decide_eq_false g1,Bool.false_and])
    refine wk ?_
    exact retP rfl (by exact lw) (f _ (by simp only [withinZ,hb,Bool.false_and,Bool.and_false]))
  have hkk:k=a.shells.length:=by omega
  have e3:(List.range a.shells.length).all (shellOut a b)=true:=by
   rw [List.all_eq_true];intro j hj;exact hall j (by simp at hj;omega)
  by_cases e4:b.fromLo≤a.fromLo
  rotate_left
  ·refine wk ?_
   exact retP rfl (by exact lw) (f _ (by simp only [withinZ,decide_eq_false e4,Bool.false_and,Bool.and_false]))
  by_cases e5:a.fromHi≤b.fromHi
  rotate_left
  ·refine wk ?_
   exact retP rfl (by exact lw) (f _ (by simp only [withinZ,decide_eq_false e5,Bool.false_and,Bool.and_false]))
  by_cases e6:a.toHi≤b.toHi
  rotate_left
  ·refine wk ?_
   exact retP rfl (by exact lw) (f _ (by simp only [withinZ,decide_eq_false e6,Bool.false_and,Bool.and_false]))
  by_cases e7:b.bornLo≤a.bornLo
  rotate_left
  ·refine wk ?_
   exact retP rfl (by exact lw) (f _ (by simp only [withinZ,decide_eq_false e7,Bool.false_and,Bool.and_false]))
  by_cases e8:a.bornHi≤b.bornHi
  rotate_left
  ·refine wk ?_
   exact retP rfl (by exact lw) (f _ (by simp only [withinZ,decide_eq_false e8,Bool.false_and,Bool.and_false]))
  refine wk ?_
  refine PW.rangeFunc (A:=Part (fldsL s a b)) (S:=(· = fldsL s a b)) 3000000 [3000003] (fun _=>(((bot.setb 3000003 [pbool false]).put 4 (.ep (psumL a) 0)).put 5 (.ep (psumL b) 0)).put 6 (.ptr 3000003 0)) (fun pre=>∀k,k < pre.length→badF a.count b.count (a.fields.getD k default) (b.fields.getD k default)=false) (by simp) rfl rfl ?_ (it_fields s a b h0 h1 h2 x4 y4) (by exact sbr0) (fun pre=>by exact kn0) (by intro pre i hi;simp only [List.mem_cons,List.not_mem_nil,or_false] at hi;rcases hi with rfl|rfl|rfl|rfl|rfl<;>rfl) rfl (by decide) (fun pre=>by exact ow0) (by simp) ?_ ?_ ?_
  ·simp [hlea,hleb,hles]
  ·intro pre x hx
   obtain ⟨k,-,rfl,-⟩:=part_fld hx
   exact ⟨rfl,fun p hp=>⟨low_fldR s a b k p hp,by simp only [fldR,List.mem_cons,List.not_mem_nil,or_false] at hp;rcases hp with rfl|rfl<;>rfl⟩⟩
  ·intro pre x hI hx
   obtain ⟨k,hk,rfl,hpre⟩:=part_fld hx
   simp only [putps]
   simp only [fldR]
   refine wk ?_
   refine normP ?_
   have hkbad:badF a.count b.count (a.fields.getD k default) (b.fields.getD k default)=true→withinZ s a b=false:=fun h=>by
    have:((List.range s.defs.length).all fun k => !badF a.count b.count (a.fields.getD k default) (b.fields.getD k default))=false:=by
     rw [List.all_eq_false];exact ⟨k,by simp [hk],by rw [h];decide⟩
    simp only [withinZ,this,Bool.and_false]
   have hpl:pre.length=k:=by rw [hpre,List.length_take,fldsL_len];omega
   have hgood:badF a.count b.count (a.fields.getD k default) (b.fields.getD k default)=false→∀j,j < (pre ++ [fldR s a b k]).length→badF a.count b.count (a.fields.getD j default) (b.fields.getD j default)=false:=fun h j hj=>by
    rw [List.length_append,List.length_singleton,hpl] at hj
    rcases Nat.lt_succ_iff_lt_or_eq.1 hj with h2|h2
    ·exact hI j (by omega)
    ·rw [h2];exact h
   obtain ⟨n1,n2⟩:=ca2 k
   obtain ⟨n3,n4⟩:=cb2 k
   have hxw:=x5 k
   have hyw:=y5 k
   generalize a.fields.getD k default=x at *
   generalize b.fields.getD k default=y at *
   have hany:=pw_anyS 103 [.ep (pfldL y) 0] (fun w => !hasB y.words w) x.words rfl (by omega) (by simp [low_ep];exact low_pfldL y) (fun j _=>pw_alien _ y hyw)
   have hlx:=low_pfldL x
   have hly:=low_pfldL y
   refine PW.block ?_
   refine PW.seq ?_
   refine PW.draw typeTab_ok (by kernel_rfl) (by kernel_rfl) (by kernel_rfl) ?_
   refine wg ?_
   refine PW.freezeP (id:=13005) (s:=12) (off:=0) (σ':=(((((bot.setb 3000003 [pbool false]).setb 13004 (pfldL x)).put 4 (.ep (psumL a) 0)).put 5 (.ep (psumL b) 0)).put 6 (.ptr 3000003 0)).put 11 (.ptr 13004 0)) rfl rfl hly (by exact sbr0) rfl ?_
   by_cases q1:y.has < x.has
   ·refine wk ?_
    refine roundP_ret ((bot.setb 3000003 [pbool false]).put 6 (.ptr 3000003 0)) ((bot.setb 3 [pbool false]).put 6 (.ptr 3 0)) (by exact lt0) (by exact sb) (by exact kn0) (by exact sbr0) ?_
    refine blockP_ret (thenP_ret (retP rfl (by exact lw) (f _ (hkbad (by simp only [badF,decide_eq_true q1,Bool.true_or,Bool.or_true,Bool.true_and])))))
   by_cases q2:b.count - y.has < a.count - x.has
   ·refine wk ?_
    refine roundP_ret ((bot.setb 3000003 [pbool false]).put 6 (.ptr 3000003 0)) ((bot.setb 3 [pbool false]).put 6 (.ptr 3 0)) (by exact lt0) (by exact sb) (by exact kn0) (by exact sbr0) ?_
    refine blockP_ret (thenP_ret (retP rfl (by exact lw) (f _ (hkbad (by simp only [badF,decide_eq_true q2,Bool.true_or,Bool.or_true,Bool.true_and])))))
   by_cases q3:0 < x.has
   rotate_left
   ·refine wk ?_
    refine roundP ?_ (by exact sb) (by exact lt0)
    have hg:=hgood (by simp only [badF,decide_eq_false q1,decide_eq_false q2,decide_eq_false q3,Bool.false_or,Bool.or_false,Bool.false_and,Bool.and_false,Bool.true_and])
    intro j hj
    exact hg j (by simpa using hj)
   by_cases q4:x.lo < y.lo
   ·refine wk ?_
    refine roundP_ret ((bot.setb 3000003 [pbool false]).put 6 (.ptr 3000003 0)) ((bot.setb 3 [pbool false]).put 6 (.ptr 3 0)) (by exact lt0) (by exact sb) (by exact kn0) (by exact sbr0) ?_
    refine blockP_ret (thenP_ret (retP rfl (by exact lw) (f _ (hkbad (by simp only [badF,decide_eq_true q3,decide_eq_true q4,Bool.true_or,Bool.or_true,Bool.true_and])))))
   by_cases q5:y.hi < x.hi
   ·refine wk ?_
    refine roundP_ret ((bot.setb 3000003 [pbool false]).put 6 (.ptr 3000003 0)) ((bot.setb 3 [pbool false]).put 6 (.ptr 3 0)) (by exact lt0) (by exact sb) (by exact kn0) (by exact sbr0) ?_
    refine blockP_ret (thenP_ret (retP rfl (by exact lw) (f _ (hkbad (by simp only [badF,decide_eq_true q3,decide_eq_true q5,Bool.true_or,Bool.or_true,Bool.true_and])))))
   cases q6:x.words.any fun w => !hasB y.words w with
   |true=>
    rw [q6] at hany
    refine wk ?_
    refine roundP_ret ((bot.setb 3000003 [pbool false]).put 6 (.ptr 3000003 0)) ((bot.setb 3 [pbool false]).put 6 (.ptr 3 0)) (by exact lt0) (by exact sb) (by exact kn0) (by exact sbr0) ?_
    refine blockP_ret (thenP_ret (retP rfl (by exact lw) (f _ (hkbad (by simp only [badF,decide_eq_true q3,q6,Bool.true_or,Bool.or_true,Bool.true_and])))))
   |false=>
    rw [q6] at hany
    refine wk ?_
    refine roundP ?_ (by exact sb) (by exact lt0)
    have hg:=hgood (by simp only [badF,decide_eq_false q1,decide_eq_false q2,decide_eq_false q4,decide_eq_false q5,q6,Bool.false_or,Bool.or_false,Bool.false_and,Bool.and_false,Bool.true_and])
    intro j hj
    exact hg j (by simpa using hj)
  ·intro xs hxs hI
   subst hxs
   refine ⟨(((bot.setb 3 [pbool false]).put 4 (.ep (psumL a) 0)).put 5 (.ep (psumL b) 0)).put 6 (.ptr 3 0),by exact sbr0,?_⟩
   refine wk ?_
   refine retP rfl (by exact lw) (f _ ?_)
   have:((List.range s.defs.length).all fun k => !badF a.count b.count (a.fields.getD k default) (b.fields.getD k default))=true:=by
    rw [List.all_eq_true]
    intro j hj
    have hj' : j < s.defs.length:=by simpa using hj
    rw [hI j (by rw [fldsL_len];exact hj')];rfl
   have e3':=e3
   rw [e2] at e3'
   simp only [withinZ,e0,e1,e2,e3',e4,e5,e6,e7,e8,this,decide_true,Bool.and_self]
end
end Go.Proofs.YtoamkpgaaanafaaGreat
