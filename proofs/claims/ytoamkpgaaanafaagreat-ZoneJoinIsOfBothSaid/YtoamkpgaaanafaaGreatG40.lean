/- Out of: Zx, Ud, Wa, Wb, Wf. -/
import Derived.Test.YtoamkpgaaanafaaGreatRows
import Derived.WalkKit
import Derived.WalkSpells
import Derived.WalkLawsBesides
import Derived.Deep.QuietTactic
import Derived.BigQuiet
import Derived.RegionTactic
import Derived.Lib.AppendZeros
import Derived.Lib.AppendStr
import Derived.Lib.Hide
import Derived.OrdersIn
import Derived.Laws.BytesString
import Derived.WideLaws
import Derived.RangeFuncRecord
import Derived.Orders
import GoSem.Step
import Derived.Laws.RangeAny
import Derived.Lib.OthersKept
import Derived.Outline
import Derived.Laws.EntriesVeiled
import Derived.KernelRfl
import Derived.StillTailTactics
import Derived.Deep.Cut
import Derived.RangeFuncCalls
import Derived.Lib.BitFns
import Derived.Test.YtoamkpgaaanafaaGreatShelf
import Derived.Test.YtoamkpgaaanafaaGreatIter
import Derived.Laws.Strings
import Derived.Test.YtoamkpgaaanafaaGreatG1
import Derived.Test.YtoamkpgaaanafaaGreatG2
import Derived.Test.YtoamkpgaaanafaaGreatG3
import Derived.Test.YtoamkpgaaanafaaGreatG6
import Derived.Test.YtoamkpgaaanafaaGreatG7
import Derived.Test.YtoamkpgaaanafaaGreatG8
import Derived.Test.YtoamkpgaaanafaaGreatG9
import Derived.Test.YtoamkpgaaanafaaGreatG10
import Derived.Test.YtoamkpgaaanafaaGreatG11
import Derived.Test.YtoamkpgaaanafaaGreatG12
import Derived.Test.YtoamkpgaaanafaaGreatG13
import Derived.Test.YtoamkpgaaanafaaGreatG14
import Derived.Test.YtoamkpgaaanafaaGreatG15
import Derived.Test.YtoamkpgaaanafaaGreatG16
import Derived.Test.YtoamkpgaaanafaaGreatG17
import Derived.Test.YtoamkpgaaanafaaGreatG19
import Derived.Test.YtoamkpgaaanafaaGreatG21
import Derived.Test.YtoamkpgaaanafaaGreatG23
import Derived.Test.YtoamkpgaaanafaaGreatG24
import Derived.Test.YtoamkpgaaanafaaGreatG25
import Derived.Test.YtoamkpgaaanafaaGreatG26
import Derived.Test.YtoamkpgaaanafaaGreatG28
import Derived.Test.YtoamkpgaaanafaaGreatG31
import Derived.Test.YtoamkpgaaanafaaGreatG32
import Derived.Test.YtoamkpgaaanafaaGreatG33
import Derived.Test.YtoamkpgaaanafaaGreatG34
import Derived.Test.YtoamkpgaaanafaaGreatG36
namespace Go.Proofs.YtoamkpgaaanafaaGreat
set_option linter.unusedSimpArgs false
set_option linter.unusedVariables false
set_option linter.unnecessarySimpa false
section
open Go.RowKit
variable {P:Program} {M:Nat} {Q:Exit→PS→Prop} {σ:PS}
theorem PW.cutX {α:Type} {a b c y:Code} (st:α→PS) (I:α→Prop) (h1:PW P M a (ThenP P M b (ThenP P M c (MidP M st I Q))) σ) (h2:∀x,I x→PW P M y Q (st x)):PW P M a (ThenP P M b (ThenP P M (.seq c y) Q)) σ:=by
 refine PW.conseq h1 fun e σ' h=>?_
 cases e with
 |normal=>
  refine PW.conseq h fun e σ'' h=>?_
  cases e with
  |normal=>exact PW.cut st I h h2
  |_=>exact h
 |_=>exact h
end
section
open Go.RowKit
def tJ (a b:PSum):TSt:=⟨mnI a.fromLo b.fromLo,mxI a.fromHi b.fromHi,mxI a.toHi b.toHi,mnI a.bornLo b.bornLo,mxI a.bornHi b.bornHi⟩
noncomputable def joinedK (a b:PSum) (k:Nat):List PV:=((List.range k).map fun j=>joinF (a.fields.getD j default) (b.fields.getD j default)).flatMap pfldL
theorem joinedK_succ (a b:PSum) (k:Nat):joinedK a b (k+1)=joinedK a b k ++ pfldL (joinF (a.fields.getD k default) (b.fields.getD k default)):=by
 simp [joinedK,List.range_succ]
theorem low_joinedK (a b:PSum) (k:Nat):∀c∈joinedK a b k,Low c:=by
 intro c hc
 obtain ⟨z,-,hz⟩:=List.mem_flatMap.1 hc
 exact low_pfldL z c hz
theorem owns_fld (n:Nat) (l:List PField) (E:TypeId):OwnsX (.sl n 4 (l.flatMap pfldL) (some E)):=by
 intro n k cs E' e
 cases e
 cases l with
 |nil=>exact .inl rfl
 |cons f r=>exact .inr ⟨3,pstrs f.words,rfl,rfl⟩
noncomputable def zJ (a b:PSum) (k:Nat):List PV:=zC (tJ a b) (a.count+b.count) (pints (boxJoin a.box b.box).1.lo) (pints (boxJoin a.box b.box).1.hi) (pshells (shJoin a.shells b.shells).1) (.sl k 4 (joinedK a b k) (some 100))
theorem low_zJ (a b:PSum) (k:Nat):∀c∈zJ a b k,Low c:=low_zC ((low_pints _).2 trivial) ((low_pints _).2 trivial) ((low_pshells _).2 trivial) (.sl _ _ _ _ (low_joinedK a b k))
theorem owns_zJ (a b:PSum) (k:Nat):∀c∈zJ a b k,OwnsX c:=by
 intro c hc
 simp only [zJ,zC,List.mem_cons,List.not_mem_nil,or_false] at hc
 rcases hc with rfl|rfl|rfl|rfl|rfl|rfl|rfl|rfl|rfl|rfl
 all_goals first|exact owns_fld _ _ _|exact ownsX_no rfl
theorem owns_zNil:∀c∈zNil,OwnsX c:=by
 intro c hc
 simp only [zNil,zC,List.mem_cons,List.not_mem_nil,or_false] at hc
 rcases hc with rfl|rfl|rfl|rfl|rfl|rfl|rfl|rfl|rfl|rfl
 all_goals exact ownsX_no rfl
def WordsZ (f:PField):Prop:=f.words.length≤1000∧∀w∈f.words,w.size≤1000000000
theorem setK_ok {l:List ByteArray} (h1:l.length≤2000) (h2:∀w∈l,w.size≤1000000000):(setK l).Nodup∧(setK l).length≤1000000∧∀w∈setK l,w.size≤1000000000:=
 ⟨setK_nodup l,by have:=setK_len l;omega,fun w hw=>h2 w (setK_mem.1 hw)⟩
set_option maxRecDepth 10000 in
set_option maxHeartbeats 16000000 in
theorem pw_zJoin (s:PSchema) (a b:PSum) (ha:SmallZ a) (hb:SmallZ b) (ca:CountZ a) (cb:CountZ b) (wa:∀k,WordsZ (a.fields.getD k default)) (wb:∀k,WordsZ (b.fields.getD k default)) (h0:s.defs.length≤1000000) (h1:s.defs.length≤a.fields.length) (h2:s.defs.length≤b.fields.length):PCalls Tryz.prog 43 [pschema s,psum a,psum b] (· = .tup [psum (joinSum joinF s a b).1,pint (joinSum joinF s a b).2]):=by
 obtain ⟨x1,x2,x3,x4,x5⟩:=ha
 obtain ⟨y1,y2,y3,y4,y5⟩:=hb
 obtain ⟨⟨ca1,ca1'⟩,ca2⟩:=ca
 obtain ⟨⟨cb1,cb1'⟩,cb2⟩:=cb
 have c1:=pw_boxJoin a.box b.box (by omega) (by omega) (by omega) (by omega)
 have c2:=pw_shJoin a.shells b.shells (by omega) (by omega)
 have c3:=pw_fields s a b
 have hla:=low_psumL a
 have hlb:=low_psumL b
 have hls:=low_schCells s
 have hles:Low (.ep (schCellsP s) 0):=.ep _ _ hls
 have hlea:Low (.ep (psumL a) 0):=.ep _ _ hla
 have hleb:Low (.ep (psumL b) 0):=.ep _ _ hlb
 have hzn:=low_zNil
 have lowN:∀c:Int,Low (.tup [.agg zNil, .val (.int .i64 c)]):=fun c=>low_tup.2 (by simp only [List.mem_cons,List.not_mem_nil,or_false];rintro x (rfl|rfl);exact .agg _ hzn;exact .val _)
 refine PCalls.weak ?_
 refine pcalls_of_pw typeTab_ok Tryz.func43 rfl (by kernel_rfl) (by simp [low_psum,low_pschema]) (by simp [psum,psumL,pschema,PV.ownB]) (by rw [Tryz.ntmps43];simp) ?_
 rw [Tryz.ntmps43,Tryz.results43]
 refine PW.seq ?_
 refine PW.region typeTab_ok (by kernel_rfl) ?_
 refine wg ?_
 refine PW.freezeP (id:=0) (s:=3) (off:=0) (σ':=(((((bot.setb 1 (psumL a)).setb 2 (psumL b)).setb 3 zNil).put 4 (.ptr 1 0)).put 5 (.ptr 2 0)).put 6 (.ptr 3 0)) rfl rfl hls (by exact sbr0) rfl ?_
 refine PW.freezeP (id:=1) (s:=4) (off:=0) (σ':=((((bot.setb 2 (psumL b)).setb 3 zNil).put 3 (.ep (schCellsP s) 0)).put 5 (.ptr 2 0)).put 6 (.ptr 3 0)) rfl rfl hla (by exact sbr0) rfl ?_
 refine PW.freezeP (id:=2) (s:=5) (off:=0) (σ':=(((bot.setb 3 zNil).put 3 (.ep (schCellsP s) 0)).put 4 (.ep (psumL a) 0)).put 6 (.ptr 3 0)) rfl rfl hlb (by exact sbr0) rfl ?_
 unfold pbox pboxL at c1
 unfold joinSum
 by_cases e0:a.shells.length=b.shells.length
 rotate_left
 ·rw [if_pos e0]
  refine wk ?_
  exact retP (r:=.tup [.agg zNil,pint 1]) rfl (lowN 1) weak_zNil
 rw [if_neg (by simp [e0])]
 by_cases e1:4096 < a.count+b.count
 ·rw [if_pos e1]
  refine wk ?_
  exact retP (r:=.tup [.agg zNil,pint 2]) rfl (lowN 2) weak_zNil
 rw [if_neg e1]
 have hz0:=low_zJ a b 0
 have hlsh:Low (pshells (shJoin a.shells b.shells).1):=(low_pshells _).2 trivial
 refine wk ?_
 refine PW.rangeFunc (A:=Part (fldsL s a b)) (S:=(· = fldsL s a b)) 3000000 [3005031,3000003] (fun pre=>(((bot.setb 3000003 zNil).setb 3005031 (zJ a b pre.length)).put 6 (.ptr 3000003 0)).put 8 (.ptr 3005031 0)) (fun _=>True) trivial rfl rfl ?_ (it_fields s a b h0 h1 h2 x4 y4) (by exact sbr0) (fun pre=>by exact kn0) (by intro pre i hi;simp only [List.mem_cons,List.not_mem_nil,or_false] at hi;rcases hi with rfl|rfl|rfl|rfl|rfl<;>rfl) rfl (by decide) (fun pre=>by have:=owns_zJ a b pre.length;have:=owns_zNil;exact ow0) (by simp) ?_ ?_ ?_
 ·simp [hlea,hleb,hles]
 ·intro pre x hx
  obtain ⟨k,-,rfl,-⟩:=part_fld hx
  exact ⟨rfl,fun p hp=>⟨low_fldR s a b k p hp,by simp only [fldR,List.mem_cons,List.not_mem_nil,or_false] at hp;rcases hp with rfl|rfl<;>rfl⟩⟩
 ·intro pre x _ hx
  obtain ⟨k,hk,rfl,hpre⟩:=part_fld hx
  have hpl:pre.length=k:=by rw [hpre,List.length_take,fldsL_len];omega
  simp only [List.length_append,List.length_singleton,hpl]
  simp only [fldR,putps]
  clear c1 c2 c3 hpre hx
  refine wk ?_
  refine normP ?_
  obtain ⟨n1,n2⟩:=ca2 k
  obtain ⟨n3,n4⟩:=cb2 k
  obtain ⟨w1,w2⟩:=wa k
  obtain ⟨w3,w4⟩:=wb k
  have hzk:=low_zJ a b k
  have hzk1:=low_zJ a b (k+1)
  unfold zJ at hzk hzk1 ⊢
  rw [joinedK_succ] at hzk1 ⊢
  generalize a.fields.getD k default=x at *
  generalize b.fields.getD k default=y at *
  have hlx:=low_pfldL x
  have hly:=low_pfldL y
  refine PW.block ?_
  refine PW.seq ?_
  refine PW.draw typeTab_ok (by kernel_rfl) (by kernel_rfl) (by kernel_rfl) ?_
  refine wg ?_
  refine PW.cutX (fun X:PField×PField=>((((((((bot.setb 3000003 zNil).setb 3005031 (zC (tJ a b) (a.count+b.count) (pints (boxJoin a.box b.box).1.lo) (pints (boxJoin a.box b.box).1.hi) (pshells (shJoin a.shells b.shells).1) (.sl k 4 (joinedK a b k) (some 100)))).setb 10004 (pfldL X.1)).setb 10005 (pfldL X.2)).put 6 (.ptr 3000003 0)).put 8 (.ptr 3005031 0)).put 11 (.ptr 10004 0)).put 12 (.ptr 10005 0))) (fun X=>joinF x y=⟨X.1.has,X.1.lo,X.1.hi,sortS (setK (X.1.words ++ X.2.words))⟩∧(X.1.words.length≤1000∧X.2.words.length≤1000)∧∀w∈X.1.words ++ X.2.words,w.size≤1000000000) ?_ ?_
  ·by_cases q1:x.has=0
   ·refine wk ?_
    refine midP (y,x) ⟨?_,⟨w3,w1⟩,fun w hw=>?_⟩ ?_
    ·simp only [joinF,if_pos q1,if_neg (show ¬0 < x.has by omega)]
    ·rcases List.mem_append.1 hw with h|h
     ·exact w4 w h
     ·exact w2 w h
    ·exact sb
   ·by_cases q2:0 < y.has
    ·refine wg ?_
     refine PW.region typeTab_ok (by kernel_rfl) ?_
     refine wg ?_
     refine PW.region typeTab_ok (by kernel_rfl) ?_
     refine wg ?_
     refine PW.drawE typeTab_ok (by kernel_rfl) (by kernel_rfl) (by kernel_rfl) ?_
     refine wg ?_
     refine midP (⟨x.has+y.has,mnI x.lo y.lo,mxI x.hi y.hi,x.words⟩,y) ⟨?_,⟨w1,w3⟩,fun w hw=>?_⟩ ?_
     ·simp only [joinF,if_neg q1,if_pos q2]
     ·rcases List.mem_append.1 hw with h|h
      ·exact w2 w h
      ·exact w4 w h
     ·have hlX:=low_pfldL ⟨x.has+y.has,mnI x.lo y.lo,mxI x.hi y.hi,x.words⟩
      exact sb
    ·refine wk ?_
     refine midP (x,y) ⟨?_,⟨w1,w3⟩,fun w hw=>?_⟩ ?_
     ·simp only [joinF,if_neg q1,if_neg q2]
     ·rcases List.mem_append.1 hw with h|h
      ·exact w2 w h
      ·exact w4 w h
     ·exact sb
  ·rintro ⟨X,Y⟩ ⟨hj,⟨l1,l2⟩,hsz⟩
   simp only at hj l1 l2 hsz ⊢
   rw [hj] at hzk1 ⊢
   have hcc:=pc_concatS X.words Y.words (by omega)
   have hlX:=low_pfldL X
   have hlY:=low_pfldL Y
   obtain ⟨W,hW⟩:∃W,X.words ++ Y.words=W:=⟨_,rfl⟩
   have hWl:W.length≤2000:=by rw [←hW,List.length_append];omega
   rw [hW] at hcc hzk1 hsz ⊢
   have hlowm:∀ks,∀e∈smE ks,Low e.2.1∧Low e.2.2:=fun ks e h=>by
    obtain ⟨x,-,rfl⟩:=List.mem_map.1 h
    exact ⟨.val _, .val _⟩
   refine wk ?_
   refine PWops.mkMG rfl rfl rfl rfl ?_
   refine wk ?_
   refine PW.loop (fun j:Nat=>(((((((((((bot.setb 3000003 zNil).setb 3005031 (zC (tJ a b) (a.count+b.count) (pints (boxJoin a.box b.box).1.lo) (pints (boxJoin a.box b.box).1.hi) (pshells (shJoin a.shells b.shells).1) (.sl k 4 (joinedK a b k) (some 100)))).setb 10004 (pfldL X)).setm 15000 (smL (setK (W.take j)))).put 6 (.ptr 3000003 0)).put 8 (.ptr 3005031 0)).put 11 (.ptr 10004 0)).put 13 (.mref 15000)).put 124 (pstrs W)).put 125 (pint W.length)).put 126 (pint j))) (fun j=>j≤W.length) (fun j=>W.length - j) 0 (by omega) ?_ ?_
   ·exact sb
   intro j hj
   by_cases hlt:j < W.length
   ·refine wk ?_
    refine PWops.mput rfl rfl rfl rfl rfl rfl rfl rfl rfl rfl rfl rfl (sm_mput _ _ rfl) ?_
    refine wk ?_
    refine loopP (j+1) (by omega) (by omega) ?_
    simp only [setK_take hlt]
    exact sb
   ·have hjj:W.take j=W:=List.take_of_length_le (by omega)
    simp only [hjj]
    obtain ⟨o1,o2,o3⟩:=setK_ok hWl hsz
    have H:=hc_sorted (setK W) o1 o2 o3 15000
    generalize sortS (setK W)=V at *
    generalize setK W=ks at *
    have hlX2:=low_pfldL ⟨X.has,X.lo,X.hi,V⟩
    refine wk ?_
    refine roundP trivial ?_ (by exact lt0)
    exact sb
 ·intro xs hxs _
  subst hxs
  have hzk:=low_zJ a b (fldsL s a b).length
  refine ⟨(((bot.setb 3 zNil).setb 5031 (zJ a b (fldsL s a b).length)).put 6 (.ptr 3 0)).put 8 (.ptr 5031 0),by exact sbr0,?_⟩
  rw [fldsL_len] at hzk ⊢
  refine wk ?_
  refine retP (r:=.tup [.agg (zC (tJ a b) (a.count+b.count) (pints (boxJoin a.box b.box).1.lo) (pints (boxJoin a.box b.box).1.hi) (pshells (shJoin a.shells b.shells).1) (.sl s.defs.length 4 (joinedK a b s.defs.length) none)),pint 0]) rfl (low_tup.2 (by simp only [List.mem_cons,List.not_mem_nil,or_false];rintro x (rfl|rfl);exact .agg _ (low_zC ((low_pints _).2 trivial) ((low_pints _).2 trivial) ((low_pshells _).2 trivial) (.sl _ _ _ _ (low_joinedK a b _)));exact .val _)) ?_
  refine Weak.tup (.cons (.agg ?_) (.cons (.refl _) .nil))
  refine .cons (.refl _) (.cons (.refl _) (.cons (.refl _) (.cons (.refl _) (.cons (.refl _) (.cons (.refl _) (.cons (.refl _) (.cons (.refl _) (.cons (.refl _) (.cons ?_ .nil)))))))))
  rw [pflds,List.length_map,List.length_range]
  exact .refl _
theorem fit_min {a b:Int} (ha:Fit64 a) (hb:Fit64 b):Fit64 (mnI a b)∧Fit64 (mxI a b):=by
 unfold Fit64 at *
 rw [mnI_eq,mxI_eq]
 omega
theorem box_num {b:PBox} (h:boxB b=true):Fit b.lo∧Fit b.hi:=by
 obtain ⟨h1,h2⟩:=boxB_vec h
 have key:∀v:List Int,vecB v=true→Fit v:=fun v hv x hx=>by
  obtain ⟨k,hk,rfl⟩:=List.getElem_of_mem hx
  have:=(vecB_get hv).2 k
  rw [getD_atW hk] at this
  omega
 exact ⟨key _ h1,key _ h2⟩
def fewEs (l:List PEntry) (m:Int):Bool:=decide ((l.length:Int)≤m) && l.all fewB
set_option maxRecDepth 10000 in
set_option maxHeartbeats 1000000 in
theorem pw_fewEs (l:List PEntry) (m:Int) (hl:l.length≤20000000000000) (h:∀e∈l,e.attrs.length≤20000000000000∧e.vec.length≤20000000000000):PCalls Tryz.prog 12 [pentries l,pint m] (· = pbool (fewEs l m)):=by
 have hll:Low (pentries l):=(low_pentries l).2 trivial
 have g:∀w,fewEs l m=w→pbool w=pbool (fewEs l m):=fun v h=>by rw [h]
 refine pcalls_of_pw typeTab_ok Tryz.func12 rfl (by kernel_rfl) (by simp [low_pint,low_pints,low_pstr,low_pbool,low_pbox,low_pvecs,low_pentry,low_pentries,low_psum,low_pschema,low_pshells,low_pstrs,low_pfld,low_pdef]) (by simp [pint,pints,pstr,pbool,pbox,pvecs,pentry,pentries,psum,psumL,pschema,pshells,pstrs,pfld,pfldL,pdefL,PV.ownB]) (by rw [Tryz.ntmps12];simp) ?_
 rw [Tryz.ntmps12,Tryz.results12]
 by_cases e1:(l.length:Int) > m
 ·refine wk ?_
  exact retP rfl (by exact lw) (g _ (by rw [fewEs,decide_eq_false (by omega),Bool.false_and]))
 refine wk ?_
 refine PW.loop (fun k:Nat=>(bot.put 0 (pentries l) |>.put 5 (pint k))) (fun k=>k≤l.length∧∀j,j < k→fewB (l.getD j default)=true) (fun k=>l.length - k) 0 ⟨by omega,by simp⟩ ?_ ?_
 ·exact sb
 rintro k ⟨hk,ha⟩
 by_cases hlt:k < l.length
 ·obtain ⟨q1,q2⟩:=h _ (getD_mem hlt)
  have c1:=pw_few (l.getD k default) q1 q2
  have hle:=low_entCells (l.getD k default)
  cases e2:fewB (l.getD k default) with
  |false=>
   rw [e2] at c1
   have hall:l.all fewB=false:=by rw [List.all_eq_false];exact ⟨_,getD_mem hlt,by rw [e2];decide⟩
   refine wk ?_
   exact retP rfl (by exact lw) (g _ (by rw [fewEs,hall,Bool.and_false]))
  |true=>
   rw [e2] at c1
   refine wk ?_
   refine loopP (k+1) ⟨by omega,fun j hj=>?_⟩ (by omega) ?_
   ·rcases Nat.lt_succ_iff_lt_or_eq.1 hj with h|h
    ·exact ha j h
    ·rw [h];exact e2
   ·exact sb
 ·have hall:l.all fewB=true:=by
   rw [List.all_eq_true]
   intro e he
   obtain ⟨q,hq,rfl⟩:=List.getElem_of_mem he
   have:=ha q (by omega)
   rwa [getD_atW hq] at this
  refine wk ?_
  exact retP rfl (by exact lw) (g _ (by rw [fewEs,hall,decide_eq_true (by omega)];rfl))
theorem fewEs_get {l:List PEntry} {m:Int} (h:fewEs l m=true):(l.length:Int)≤m∧∀e∈l,e.vec.length≤40∧e.attrs.length≤20∧∀a∈e.attrs,a.s.size≤300:=by
 simp only [fewEs,Bool.and_eq_true,decide_eq_true_eq,List.all_eq_true] at h
 refine ⟨h.1,fun e he=>?_⟩
 have h2:=h.2 e he
 simp only [fewB,Bool.and_eq_true,decide_eq_true_eq,List.all_eq_true,smallA] at h2
 obtain ⟨a,b,c⟩:=h2
 rw [List.take_of_length_le (by omega)] at a
 exact ⟨b,c,fun x hx=>(a x hx).2⟩
structure FP (B n:Nat) (f:PField):Prop where
 has:0≤f.has∧f.has≤n
 lo:Fit64 f.lo
 hi:Fit64 f.hi
 len:f.words.length≤n
 sz:∀w∈f.words,w.size≤B
theorem fit0:Fit64 0:=⟨by decide,by decide⟩
theorem getA_all {p:PAttr→Prop} (h0:p zeroA) {l:List PAttr} {nm:ByteArray} (h:∀a∈l,p a):p (getA l nm).1:=by
 induction l with
 |nil=>simpa [getA] using h0
 |cons a r ih=>
  unfold getA
  split
  ·exact h a (by simp)
  ·exact ih fun x hx=>h x (by simp [hx])
theorem fldOne_fp {B:Nat} (d:PDef) {e:PEntry} (h:∀a∈e.attrs,Fit64 a.n∧a.s.size≤B):FP B 1 (fldOne d e):=by
 have hg:=getA_all (p:=fun a=>Fit64 a.n∧a.s.size≤B) (nm:=d.name) ⟨fit0,by simp [zeroA]⟩ h
 unfold fldOne
 split
 ·refine ⟨by simp,hg.1,hg.1,?_,?_⟩
  ·simp only;split<;>simp
  ·simp only
   intro w hw
   split at hw
   ·simp only [List.mem_cons,List.not_mem_nil,or_false] at hw;subst hw;exact hg.2
   ·cases hw
 ·exact ⟨by simp,fit0,fit0,by simp,by simp⟩
theorem FP.join {B n m:Nat} {a b:PField} (ha:FP B n a) (hb:FP B m b) (oa:Asc a.words) (ob:Asc b.words):FP B (n+m) (joinR a b):=by
 obtain ⟨a1,a2,a3,a4,a5⟩:=ha
 obtain ⟨b1,b2,b3,b4,b5⟩:=hb
 unfold joinR
 split
 ·exact ⟨by omega,b2,b3,by omega,b5⟩
 ·split
  ·exact ⟨by omega,a2,a3,by omega,a5⟩
  ·refine ⟨by simp only;omega,(fit_min a2 b2).1,(fit_min a3 b3).2,?_,fun w hw=>?_⟩
   ·have:=mergeW_len a.words b.words
    simp only;omega
   ·rcases ((mergeW_spec _ _ oa ob).2 w).1 hw with h|h
    ·exact a5 w h
    ·exact b5 w h
theorem fieldOfP_fp {B:Nat} (d:PDef) (l:List PEntry) (h0:0 < l.length) (h:∀e∈l,∀a∈e.attrs,Fit64 a.n∧a.s.size≤B):FP B l.length (fieldOfP d l):=by
 revert h
 refine snoc_ind (P:=fun l=>(∀e∈l,∀a∈e.attrs,Fit64 a.n∧a.s.size≤B)→FP B l.length (fieldOfP d l)) (fun a h=>?_) (fun l a h0 ih h=>?_) l h0
 ·rw [fieldOfP_one];exact fldOne_fp d (h a (by simp))
 ·rw [fieldOfP_snoc,List.length_append]
  exact (ih fun e he=>h e (by simp [he])).join (fldOne_fp d (h a (by simp))) (fieldOfP_ok d l).asc (fldOne_ok d a).asc
def FitL (l:List PEntry):Prop:=∀e∈l,∀a∈e.attrs,Fit64 a.n∧a.s.size≤1000
theorem of_fields {s:PSchema} {pv:List (List Int)} {m:List PEntry} (k:Nat) (hS:SumOK s pv m) (h0:0 < m.length) (hl:m.length≤1000) (hA:FitL m):FP 1000 m.length ((ofL s pv m).fields.getD k default):=by
 rw [ofL_eq hS h0 (by omega)]
 simp only
 rcases Nat.lt_or_ge k s.defs.length with hk|hk
 ·rw [map_getD _ hk];exact fieldOfP_fp _ m h0 hA
 ·rw [List.getD_eq_getElem?_getD,List.getElem?_eq_none (by simpa using hk)]
  exact ⟨⟨by decide,by simp [default,instInhabitedPField.default]⟩,fit0,fit0,by simp [default,instInhabitedPField.default],by intro w hw;simp [default,instInhabitedPField.default] at hw⟩
theorem of_len {s:PSchema} {pv:List (List Int)} {m:List PEntry} (hS:SumOK s pv m) (h0:0 < m.length) (hl:m.length≤1000):(ofL s pv m).fields.length=s.defs.length∧(ofL s pv m).shells.length=pv.length∧(ofL s pv m).count=m.length∧boxB (ofL s pv m).box=true:=by
 have he:=hS.ent _ (getD_mem h0)
 obtain ⟨⟨v1,v2⟩,-⟩:=vecB_get he.1
 have hb:=(sum_box he.2 m h0 hS).valid v1 v2
 rw [ofL_eq hS h0 (by omega)]
 exact ⟨by simp,by simp,rfl,hb⟩
theorem of_small {s:PSchema} {pv:List (List Int)} {m:List PEntry} (hS:SumOK s pv m) (h0:0 < m.length) (hl:m.length≤1000) (hs:SmallS s) (hA:FitL m):SmallZ (ofL s pv m)∧CountZ (ofL s pv m)∧∀k,WordsZ ((ofL s pv m).fields.getD k default):=by
 obtain ⟨q1,q2,q3,q4⟩:=of_len hS h0 hl
 obtain ⟨b1,b2,b3⟩:=boxB_len q4
 have hp:=hS.len
 have hd:=hs.1
 refine ⟨⟨by omega,by omega,by omega,by omega,fun k=>?_⟩,⟨by omega,fun k=>?_⟩,fun k=>⟨?_,fun w hw=>?_⟩⟩<;>have hf:=of_fields k hS h0 hl hA
 ·have:=hf.len;omega
 ·have:=hf.has;omega
 ·have:=hf.len;omega
 ·have:=hf.sz w hw;omega
theorem tSt_fit {l:List PEntry} (h0:0 < l.length) (h:∀e∈l,Fit64 e.frm∧Fit64 e.to∧Fit64 e.born):Fit64 (tSt l).fromLo∧Fit64 (tSt l).fromHi∧Fit64 (tSt l).toHi∧Fit64 (tSt l).bornLo∧Fit64 (tSt l).bornHi:=by
 revert h
 refine snoc_ind (P:=fun l=>(∀e∈l,Fit64 e.frm∧Fit64 e.to∧Fit64 e.born)→Fit64 (tSt l).fromLo∧Fit64 (tSt l).fromHi∧Fit64 (tSt l).toHi∧Fit64 (tSt l).bornLo∧Fit64 (tSt l).bornHi) (fun a h=>?_) (fun l a h0 ih h=>?_) l h0
 ·obtain ⟨a1,a2,a3⟩:=h a (by simp)
  rw [tSt_one];exact ⟨a1,a1,a2,a3,a3⟩
 ·obtain ⟨a1,a2,a3⟩:=h a (by simp)
  obtain ⟨i1,i2,i3,i4,i5⟩:=ih fun e he=>h e (by simp [he])
  rw [tSt_snoc h0]
  exact ⟨(fit_min i1 a1).1,(fit_min i2 a1).2,(fit_min i3 a2).2,(fit_min i4 a3).1,(fit_min i5 a3).2⟩
theorem of_num {s:PSchema} {pv:List (List Int)} {m:List PEntry} (hS:SumOK s pv m) (h0:0 < m.length) (hl:m.length≤1000) (hs:s.defs.length≤100) (hA:FitL m) (hT:∀e∈m,Fit64 e.frm∧Fit64 e.to∧Fit64 e.born):NumZ (ofL s pv m):=by
 obtain ⟨q1,q2,q3,q4⟩:=of_len hS h0 hl
 obtain ⟨b1,b2,b3⟩:=boxB_len q4
 obtain ⟨n1,n2⟩:=box_num q4
 have hp:=hS.len
 obtain ⟨t1,t2,t3,t4,t5⟩:=tSt_fit h0 hT
 refine ⟨?_,n1,n2,?_,fun f hf=>?_,by omega,by omega,by omega,by omega⟩
 ·have hc:Fit64 (m.length:Int):=⟨by omega,by omega⟩
  rw [ofL_eq hS h0 (by omega)]
  intro x hx
  simp only [headZ,List.mem_cons,List.not_mem_nil,or_false] at hx
  rcases hx with rfl|rfl|rfl|rfl|rfl|rfl<;>assumption
 ·rw [ofL_eq hS h0 (by omega)]
  intro x hx
  obtain ⟨p,hp,rfl⟩:=List.mem_map.1 hx
  have:=shellB_iff.1 (shK_ok hp m h0 hS)
  exact ⟨⟨by omega,by omega⟩,⟨by omega,by omega⟩⟩
 ·obtain ⟨k,hk,rfl⟩:=List.getElem_of_mem hf
  have h:=of_fields k hS h0 hl hA
  rw [getD_atW hk] at h
  obtain ⟨f1,f2,f3,f4,f5⟩:=h
  exact ⟨⟨⟨by omega,by omega⟩,f2,f3⟩,by omega,fun w hw=>by have:=f5 w hw;omega⟩
theorem mergeW_comm {a b:List ByteArray} (ha:Asc a) (hb:Asc b):mergeW a b=mergeW b a:=
 (mergeW_spec a b ha hb).1.ext (mergeW_spec b a hb ha).1 fun x=>by rw [(mergeW_spec a b ha hb).2,(mergeW_spec b a hb ha).2,Or.comm]
theorem mergeW_assoc {a b c:List ByteArray} (ha:Asc a) (hb:Asc b) (hc:Asc c):mergeW (mergeW a b) c=mergeW a (mergeW b c):=by
 obtain ⟨h1,m1⟩:=mergeW_spec a b ha hb
 obtain ⟨h2,m2⟩:=mergeW_spec b c hb hc
 obtain ⟨h3,m3⟩:=mergeW_spec _ c h1 hc
 obtain ⟨h4,m4⟩:=mergeW_spec a _ ha h2
 refine h3.ext h4 fun x=>?_
 rw [m3,m1,m4,m2,or_assoc]
theorem joinR_assoc {a b c:PField} (ha:FieldOK a) (hb:FieldOK b) (hc:FieldOK c):joinR (joinR a b) c=joinR a (joinR b c):=by
 have h1:=ha.has
 have h2:=hb.has
 have h3:=hc.has
 by_cases q1:a.has=0
 ·simp only [joinR,if_pos q1]
 ·by_cases q2:b.has=0
  ·simp only [joinR,if_neg q1,if_pos q2]
  ·by_cases q3:c.has=0
   ·have e1:a.has+b.has≠0:=by omega
    simp only [joinR,if_neg q1,if_neg q2,if_pos q3,if_neg e1]
   ·have e1:a.has+b.has≠0:=by omega
    have e2:b.has+c.has≠0:=by omega
    simp only [joinR,if_neg q1,if_neg q2,if_neg q3,if_neg e1,if_neg e2,mnI_eq,mxI_eq,mergeW_assoc ha.asc hb.asc hc.asc,PField.mk.injEq,and_true]
    omega
theorem joinR_comm {a b:PField} (ha:FieldOK a) (hb:FieldOK b):joinR a b=joinR b a:=by
 by_cases q1:a.has=0
 ·by_cases q2:b.has=0
  ·obtain ⟨a1,a2,a3⟩:=ha.none q1
   obtain ⟨b1,b2,b3⟩:=hb.none q2
   simp only [joinR,if_pos q1,if_pos q2]
   cases a;cases b;simp_all
  ·simp only [joinR,if_pos q1,if_neg q2]
 ·by_cases q2:b.has=0
  ·simp only [joinR,if_neg q1,if_pos q2]
  ·simp only [joinR,if_neg q1,if_neg q2,mnI_eq,mxI_eq,mergeW_comm ha.asc hb.asc,PField.mk.injEq,and_true]
   omega
theorem fieldOfP_app (d:PDef) (X Y:List PEntry) (h:0 < Y.length):fieldOfP d (X ++ Y)=joinR (fieldOfP d X) (fieldOfP d Y):=by
 refine snoc_ind (P:=fun Y=>fieldOfP d (X ++ Y)=joinR (fieldOfP d X) (fieldOfP d Y)) (fun a=>?_) (fun l a h0 ih=>?_) Y h
 ·rw [fieldOfP_snoc,fieldOfP_one]
 ·rw [←List.append_assoc,fieldOfP_snoc,ih,fieldOfP_snoc d l a,joinR_assoc (fieldOfP_ok d X) (fieldOfP_ok d l) (fldOne_ok d a)]
theorem zipI_assoc {g:Int→Int→Int} (hg:∀x y z,g (g x y) z=g x (g y z)) {a b c:List Int} (h:a.length=b.length):zipI g (zipI g a b) c=zipI g a (zipI g b c):=by
 show (List.range (zipI g a b).length).map _=(List.range a.length).map _
 rw [zipI_len]
 refine List.map_congr_left fun k hk=>?_
 have hk' : k < a.length:=by simpa using hk
 rw [zipI_get hk',zipI_get (by omega),hg]
theorem zipI_comm {g:Int→Int→Int} (hg:∀x y,g x y=g y x) {a b:List Int} (h:a.length=b.length):zipI g a b=zipI g b a:=by
 show (List.range a.length).map _=(List.range b.length).map _
 rw [h]
 exact List.map_congr_left fun k _=>hg _ _
theorem boxOfL_app {n:Nat} {X:List (List Int)} (hX:0 < X.length) (l1:(boxOfL X).lo.length=n) (l2:(boxOfL X).hi.length=n) (Y:List (List Int)) (hY:0 < Y.length) (h:∀v∈Y,v.length=n) :
  boxOfL (X ++ Y)=⟨zipI min (boxOfL X).lo (boxOfL Y).lo,zipI max (boxOfL X).hi (boxOfL Y).hi⟩∧((boxOfL Y).lo.length=n∧(boxOfL Y).hi.length=n):=by
 revert h
 refine snoc_ind (P:=fun Y=>(∀v∈Y,v.length=n)→boxOfL (X ++ Y)=⟨zipI min (boxOfL X).lo (boxOfL Y).lo,zipI max (boxOfL X).hi (boxOfL Y).hi⟩∧((boxOfL Y).lo.length=n∧(boxOfL Y).hi.length=n)) (fun v h=>?_) (fun l v h0 ih h=>?_) Y hY
 ·have hv:=h v (by simp)
  have e:boxOfL [v]=⟨v,v⟩:=by simp [boxOfL]
  rw [boxOfL_snoc hX,e]
  exact ⟨rfl,hv,hv⟩
 ·obtain ⟨i1,i2,i3⟩:=ih fun x hx=>h x (by simp [hx])
  rw [←List.append_assoc,boxOfL_snoc (by rw [List.length_append];omega),i1,boxOfL_snoc h0]
  simp only
  rw [zipI_assoc (by intro x y z;omega) (by omega),zipI_assoc (by intro x y z;omega) (by omega)]
  exact ⟨rfl,by rw [zipI_len];exact i2,by rw [zipI_len];exact i3⟩
theorem shK_app {s:PSchema} {p:List Int} {X:List PEntry} (hX:0 < X.length) (Y:List PEntry) (hY:0 < Y.length):shK s p (X ++ Y)=⟨min (shK s p X).lo (shK s p Y).lo,max (shK s p X).hi (shK s p Y).hi⟩:=by
 refine snoc_ind (P:=fun Y=>shK s p (X ++ Y)=⟨min (shK s p X).lo (shK s p Y).lo,max (shK s p X).hi (shK s p Y).hi⟩) (fun a=>?_) (fun l a h0 ih=>?_) Y hY
 ·rw [shK_snoc hX,shK_one,withP]
 ·rw [←List.append_assoc,shK_snoc (by rw [List.length_append];omega),ih,shK_snoc h0]
  simp only [withP,PShell.mk.injEq]
  omega
theorem tSt_app {X:List PEntry} (hX:0 < X.length) (Y:List PEntry) (hY:0 < Y.length):tSt (X ++ Y)=⟨mnI (tSt X).fromLo (tSt Y).fromLo,mxI (tSt X).fromHi (tSt Y).fromHi,mxI (tSt X).toHi (tSt Y).toHi,mnI (tSt X).bornLo (tSt Y).bornLo,mxI (tSt X).bornHi (tSt Y).bornHi⟩:=by
 refine snoc_ind (P:=fun Y=>tSt (X ++ Y)=⟨mnI (tSt X).fromLo (tSt Y).fromLo,mxI (tSt X).fromHi (tSt Y).fromHi,mxI (tSt X).toHi (tSt Y).toHi,mnI (tSt X).bornLo (tSt Y).bornLo,mxI (tSt X).bornHi (tSt Y).bornHi⟩) (fun a=>?_) (fun l a h0 ih=>?_) Y hY
 ·rw [tSt_snoc hX,tSt_one];rfl
 ·rw [←List.append_assoc,tSt_snoc (by rw [List.length_append];omega),ih,tSt_snoc h0]
  simp only [tStep,mnI_eq,mxI_eq,TSt.mk.injEq]
  omega
theorem SumOK.left {s:PSchema} {pv:List (List Int)} {X Y:List PEntry} (h:SumOK s pv (X ++ Y)):SumOK s pv X:=⟨h.met,h.len,h.piv,fun e he=>h.ent e (by simp [he])⟩
theorem SumOK.right {s:PSchema} {pv:List (List Int)} {X Y:List PEntry} (h:SumOK s pv (X ++ Y)):SumOK s pv Y:=⟨h.met,h.len,h.piv,fun e he=>h.ent e (by simp [he])⟩
theorem SumOK.swap {s:PSchema} {pv:List (List Int)} {X Y:List PEntry} (h:SumOK s pv (X ++ Y)):SumOK s pv (Y ++ X):=⟨h.met,h.len,h.piv,fun e he=>h.ent e (by rw [List.mem_append] at he ⊢; exact he.symm)⟩
theorem join_of2 {s:PSchema} {pv:List (List Int)} {X Y:List PEntry} (h:SumOK s pv (X ++ Y)) (hX:0 < X.length) (hY:0 < Y.length) (hl:X.length+Y.length≤4096):joinSum joinR s (ofL s pv X) (ofL s pv Y)=(ofL s pv (X ++ Y),0):=by
 have e0:=h.left.ent _ (getD_mem hX)
 obtain ⟨⟨v1,v2⟩,-⟩:=vecB_get e0.1
 have hb:=sum_box e0.2 X hX h.left
 have hb':=sum_box e0.2 Y hY h.right
 have hb2:boxB (boxOfL (X.map (·.vec)))=true:=hb.valid v1 v2
 have hb3:boxB (boxOfL (Y.map (·.vec)))=true:=hb'.valid v1 v2
 rw [ofL_eq h.left hX (by omega),ofL_eq h.right hY (by omega),ofL_eq h (by rw [List.length_append];omega) (by rw [List.length_append];omega)]
 unfold joinSum
 simp only
 rw [if_neg (by simp),if_neg (by omega)]
 congr 1
 have ht:=tSt_app hX Y hY
 congr 1
 ·simp
 ·simp only [boxJoin,hb2,hb3,Bool.true_and,hb.lo,hb'.lo,decide_true,if_true]
  rw [List.map_append,(boxOfL_app (n:=(X.getD 0 default).vec.length) (by simpa using hX) hb.lo hb.hi (Y.map (·.vec)) (by simpa using hY) fun v hv=>?_).1]
  obtain ⟨e,he,rfl⟩:=List.mem_map.1 hv
  have:=(h.right.ent e he).2
  have:=e0.2
  omega
 ·have s1:shellsB (pv.map fun p=>shK s p X)=true:=shellsB_map h.len fun p hp=>shK_ok hp X hX h.left
  have s2:shellsB (pv.map fun p=>shK s p Y)=true:=shellsB_map h.len fun p hp=>shK_ok hp Y hY h.right
  simp only [shJoin,s1,s2,Bool.true_and,List.length_map,decide_true,if_true]
  rw [joinS_map]
  refine List.map_congr_left fun p hp=>?_
  have q1:=shellB_iff.1 (shK_ok hp X hX h.left)
  have q2:=shellB_iff.1 (shK_ok hp Y hY h.right)
  rw [shK_app hX Y hY]
  simp only [PShell.mk.injEq]
  omega
 ·rw [ht]
 ·rw [ht]
 ·rw [ht]
 ·rw [ht]
 ·rw [ht]
 ·refine Eq.trans ?_ (range_getD s.defs fun d=>fieldOfP d (X ++ Y))
  refine List.map_congr_left fun k hk=>?_
  have hk' : k < s.defs.length:=by simpa using hk
  rw [map_getD _ hk',map_getD _ hk',fieldOfP_app _ X Y hY]
theorem of_comm {s:PSchema} {pv:List (List Int)} {X Y:List PEntry} (h:SumOK s pv (X ++ Y)) (hX:0 < X.length) (hY:0 < Y.length) (hl:X.length+Y.length≤4096):ofL s pv (Y ++ X)=ofL s pv (X ++ Y):=by
 have e0:=h.left.ent _ (getD_mem hX)
 have hb:=sum_box e0.2 X hX h.left
 have hb':=sum_box e0.2 Y hY h.right
 have hv:∀Z:List PEntry,SumOK s pv Z→∀v∈Z.map (·.vec),v.length=(X.getD 0 default).vec.length:=fun Z hZ v hv=>by
  obtain ⟨e,he,rfl⟩:=List.mem_map.1 hv
  have:=(hZ.ent e he).2
  have:=e0.2
  omega
 rw [ofL_eq h (by rw [List.length_append];omega) (by rw [List.length_append];omega),ofL_eq h.swap (by rw [List.length_append];omega) (by rw [List.length_append];omega)]
 have t1:=tSt_app hX Y hY
 have t2:=tSt_app hY X hX
 have ht:tSt (Y ++ X)=tSt (X ++ Y):=by
  rw [t1,t2]
  simp only [mnI_eq,mxI_eq,TSt.mk.injEq]
  omega
 rw [ht]
 congr 1
 ·simp only [List.length_append];omega
 ·rw [List.map_append,List.map_append,(boxOfL_app (n:=(X.getD 0 default).vec.length) (by simpa using hX) hb.lo hb.hi (Y.map (·.vec)) (by simpa using hY) (hv Y h.right)).1,(boxOfL_app (n:=(X.getD 0 default).vec.length) (by simpa using hY) hb'.lo hb'.hi (X.map (·.vec)) (by simpa using hX) (hv X h.left)).1]
  rw [zipI_comm (g:=min) (by intro x y;omega) (by rw [hb.lo,hb'.lo]),zipI_comm (g:=max) (by intro x y;omega) (by rw [hb.hi,hb'.hi])]
 ·refine List.map_congr_left fun p _=>?_
  rw [shK_app hX Y hY,shK_app hY X hX]
  simp only [PShell.mk.injEq]
  omega
 ·refine List.map_congr_left fun d _=>?_
  rw [fieldOfP_app d X Y hY,fieldOfP_app d Y X hX,joinR_comm (fieldOfP_ok d Y) (fieldOfP_ok d X)]
theorem fieldOfP_has (d:PDef) (l:List PEntry):(fieldOfP d l).has≤l.length:=by
 rcases Nat.eq_zero_or_pos l.length with h|h
 ·rw [List.eq_nil_of_length_eq_zero h,fieldOfP_nil];exact Int.le_refl _
 ·refine snoc_ind (P:=fun l=>(fieldOfP d l).has≤l.length) (fun a=>?_) (fun l a _ ih=>?_) l h
  ·rw [fieldOfP_one,fldOne];split<;>simp
  ·have h1:(fldOne d a).has≤1:=by rw [fldOne];split<;>simp
   rw [fieldOfP_snoc,List.length_append,joinR]
   split
   ·simp only [List.length_cons,List.length_nil];omega
   ·split
    ·simp only [List.length_cons,List.length_nil];omega
    ·simp only [List.length_cons,List.length_nil];omega
theorem hasB_mem {l:List ByteArray} {w:ByteArray} (h:w∈l):hasB l w=true:=List.any_eq_true.2 ⟨w,h,eqB_self w⟩
theorem bad_join {ca cb:Int} {x y:PField} (hx:FieldOK x) (hy:FieldOK y) (h1:x.has≤ca) (h2:y.has≤cb):badF ca (ca+cb) x (joinR x y)=false:=by
 have q1:=hx.has
 have q2:=hy.has
 rw [badF_bet]
 by_cases e1:x.has=0
 ·have:joinR x y=y:=by simp only [joinR,if_pos e1]
  rw [this,decide_eq_false (show ¬y.has < x.has by omega),decide_eq_false (show ¬ca+cb - y.has < ca - x.has by omega),decide_eq_false (show ¬0 < x.has by omega)];rfl
 ·by_cases e2:y.has=0
  ·have:joinR x y=x:=by simp only [joinR,if_neg e1,if_pos e2]
   have hb:betB x x=true:=by
    simp only [betB,Bool.and_eq_true,decide_eq_true_eq,List.all_eq_true]
    exact ⟨fun w hw=>hasB_mem hw,by omega,by omega⟩
   rw [this,decide_eq_false (show ¬x.has < x.has by omega),decide_eq_false (show ¬ca+cb - x.has < ca - x.has by omega),hb,Bool.not_true,Bool.and_false];rfl
  ·have hj:joinR x y=⟨x.has+y.has,mnI x.lo y.lo,mxI x.hi y.hi,mergeW x.words y.words⟩:=by simp only [joinR,if_neg e1,if_neg e2]
   have hb:betB x (joinR x y)=true:=by
    rw [hj]
    simp only [betB,Bool.and_eq_true,decide_eq_true_eq,List.all_eq_true,mnI_eq,mxI_eq]
    exact ⟨fun w hw=>hasB_mem (((mergeW_spec _ _ hx.asc hy.asc).2 w).2 (.inl hw)),by omega,by omega⟩
   rw [hb,hj,decide_eq_false (show ¬x.has+y.has < x.has by omega),decide_eq_false (show ¬ca+cb - (x.has+y.has) < ca - x.has by omega),Bool.not_true,Bool.and_false];rfl
theorem within_of {s:PSchema} {pv:List (List Int)} {X Y:List PEntry} (h:SumOK s pv (X ++ Y)) (hX:0 < X.length) (hY:0 < Y.length) (hl:X.length+Y.length≤4096):withinZ s (ofL s pv X) (ofL s pv (X ++ Y))=true:=by
 have e0:=h.left.ent _ (getD_mem hX)
 obtain ⟨⟨v1,v2⟩,-⟩:=vecB_get e0.1
 have hb:=sum_box e0.2 X hX h.left
 have hbY:=sum_box e0.2 Y hY h.right
 have hbJ:=sum_box e0.2 (X ++ Y) (by rw [List.length_append];omega) h
 have hv2:boxB (boxOfL (X.map (·.vec)))=true:=hb.valid v1 v2
 have hv3:boxB (boxOfL ((X ++ Y).map (·.vec)))=true:=hbJ.valid v1 v2
 have hB:boxOfL ((X ++ Y).map (·.vec))=⟨zipI min (boxOfL (X.map (·.vec))).lo (boxOfL (Y.map (·.vec))).lo,zipI max (boxOfL (X.map (·.vec))).hi (boxOfL (Y.map (·.vec))).hi⟩:=by
  rw [List.map_append]
  exact (boxOfL_app (n:=(X.getD 0 default).vec.length) (by simpa using hX) hb.lo hb.hi (Y.map (·.vec)) (by simpa using hY) fun v hv=>by
   obtain ⟨e,he,rfl⟩:=List.mem_map.1 hv
   have:=(h.right.ent e he).2
   have:=e0.2
   omega).1
 rw [ofL_eq h.left hX (by omega),ofL_eq h (by rw [List.length_append];omega) (by rw [List.length_append];omega),tSt_app hX Y hY]
 simp only [withinZ,Bool.and_eq_true,decide_eq_true_eq,List.all_eq_true,List.mem_range,mnI_eq,mxI_eq,Bool.not_eq_true',List.length_map]
 refine ⟨by rw [List.length_append];omega,?_,trivial,fun k hk=>?_,by omega,by omega,by omega,by omega,by omega,fun k hk=>?_⟩
 ·have key:∀v:List Int,v.length=(X.getD 0 default).vec.length→(∀k,k < (X.getD 0 default).vec.length→(boxOfL (X.map (·.vec))).lo.getD k default≤v.getD k default∧v.getD k default≤(boxOfL (X.map (·.vec))).hi.getD k default)→boxHas (boxOfL ((X ++ Y).map (·.vec))) v=true:=fun v hv hk=>by
   simp only [boxHas,hv3,Bool.true_and,Bool.and_eq_true,decide_eq_true_eq,List.all_eq_true,List.mem_range,hasK,hbJ.lo,hv]
   refine ⟨trivial,fun k h=>?_⟩
   have:=hk k h
   rw [hB]
   simp only
   rw [zipI_get (by rw [hb.lo];exact h),zipI_get (by rw [hb.hi];exact h)]
   omega
  simp only [boxIn,hv2,Bool.true_and,Bool.and_eq_true]
  exact ⟨key _ hb.lo fun k hk=>by have:=hb.le k hk;omega,key _ hb.hi fun k hk=>by have:=hb.le k hk;omega⟩
 ·simp only [shellOut,Bool.and_eq_true,decide_eq_true_eq]
  rw [map_getD _ hk,map_getD _ hk,shK_app hX Y hY]
  simp only
  omega
 ·rw [map_getD _ hk,map_getD _ hk,fieldOfP_app _ X Y hY,List.length_append,Int.natCast_add]
  exact bad_join (fieldOfP_ok _ X) (fieldOfP_ok _ Y) (fieldOfP_has _ X) (fieldOfP_has _ Y)
end
end Go.Proofs.YtoamkpgaaanafaaGreat
