/- Out of: Wg. -/
import Derived.Test.YtoamkpgaaanafaaGreatRows
import Derived.WalkKit
import Derived.WalkSpells
import Derived.WalkLawsBesides
import Derived.Deep.QuietTactic
import Derived.BigQuiet
import Derived.RegionTactic
import Derived.Lib.AppendZeros
import Derived.Lib.AppendStr
import Derived.Lib.Hide
import Derived.OrdersIn
import Derived.Laws.BytesString
import Derived.WideLaws
import Derived.RangeFuncRecord
import Derived.Orders
import GoSem.Step
import Derived.Laws.RangeAny
import Derived.Lib.OthersKept
import Derived.Outline
import Derived.Laws.EntriesVeiled
import Derived.KernelRfl
import Derived.StillTailTactics
import Derived.Deep.Cut
import Derived.RangeFuncCalls
import Derived.Lib.BitFns
import Derived.Test.YtoamkpgaaanafaaGreatShelf
import Derived.Test.YtoamkpgaaanafaaGreatIter
import Derived.Laws.Strings
import Derived.Test.YtoamkpgaaanafaaGreatG1
import Derived.Test.YtoamkpgaaanafaaGreatG3
import Derived.Test.YtoamkpgaaanafaaGreatG5
import Derived.Test.YtoamkpgaaanafaaGreatG6
import Derived.Test.YtoamkpgaaanafaaGreatG7
import Derived.Test.YtoamkpgaaanafaaGreatG8
import Derived.Test.YtoamkpgaaanafaaGreatG10
import Derived.Test.YtoamkpgaaanafaaGreatG11
import Derived.Test.YtoamkpgaaanafaaGreatG14
import Derived.Test.YtoamkpgaaanafaaGreatG15
import Derived.Test.YtoamkpgaaanafaaGreatG17
import Derived.Test.YtoamkpgaaanafaaGreatG21
import Derived.Test.YtoamkpgaaanafaaGreatG23
import Derived.Test.YtoamkpgaaanafaaGreatG26
import Derived.Test.YtoamkpgaaanafaaGreatG31
import Derived.Test.YtoamkpgaaanafaaGreatG32
import Derived.Test.YtoamkpgaaanafaaGreatG33
import Derived.Test.YtoamkpgaaanafaaGreatG34
import Derived.Test.YtoamkpgaaanafaaGreatG38
import Derived.Test.YtoamkpgaaanafaaGreatG40
import Derived.Test.YtoamkpgaaanafaaGreatG41
import Derived.Test.YtoamkpgaaanafaaGreatG43
namespace Go.Proofs.YtoamkpgaaanafaaGreat
set_option linter.unusedSimpArgs false
set_option linter.unusedVariables false
set_option linter.unnecessarySimpa false
section
open Go.RowKit
theorem zOf_parts {s:PSchema} {pv:List (List Int)} {l:List PEntry} (h:(zOf s pv l).2=0):¬(checkE s≠0∨8 < pv.length∨pv.any (wrongV s)=true)∧¬((l.any fun e=>decide (entryE s e≠0))=true∨l.length=0)∧¬4096 < l.length:=by
 rw [zOf_ref] at h
 unfold refOf at h
 split at h
 ·simp at h
 ·rename_i h1
  split at h
  ·simp at h
  ·rename_i h2
   split at h
   ·simp at h
   ·rename_i h3
    exact ⟨h1,h2,h3⟩
theorem zOf_zero {s:PSchema} {pv:List (List Int)} {l:List PEntry} (h:(zOf s pv l).2=0):0 < l.length∧SumOK s pv l∧l.length≤4096∧zOf s pv l=(ofL s pv l,0):=by
 obtain ⟨h1,h2,h3⟩:=zOf_parts h
 rw [zOf_ref]
 unfold refOf
 rw [if_neg h1,if_neg h2,if_neg h3]
 simp only [not_or,Classical.not_not] at h1 h2
 have he:∀e∈l,entryE s e=0:=fun e h=>by
  by_cases q:entryE s e=0
  ·exact q
  ·exact absurd (List.any_eq_true.2 ⟨e,h,by simpa using q⟩) h2.1
 have hS:=sumOK_of h1.1 h1.2.1 h1.2.2 he
 exact ⟨by omega,hS,by omega,by rw [refL_of l (by omega) hS (by omega)]⟩
theorem zOf_both {s:PSchema} {pv:List (List Int)} {X Y:List PEntry} (hX:(zOf s pv X).2=0) (hY:(zOf s pv Y).2=0) (hl:X.length+Y.length≤4096):zOf s pv (X ++ Y)=(ofL s pv (X ++ Y),0):=by
 obtain ⟨a1,a2,a3⟩:=zOf_parts hX
 obtain ⟨b1,b2,b3⟩:=zOf_parts hY
 obtain ⟨x1,x2,x3,x4⟩:=zOf_zero hX
 obtain ⟨y1,y2,y3,y4⟩:=zOf_zero hY
 have hS:SumOK s pv (X ++ Y):=⟨x2.met,x2.len,x2.piv,fun e he=>by
  rcases List.mem_append.1 he with h|h
  ·exact x2.ent e h
  ·exact y2.ent e h⟩
 rw [zOf_ref]
 unfold refOf
 rw [if_neg a1,if_neg,if_neg (by rw [List.length_append];omega),refL_of _ (by rw [List.length_append];omega) hS (by rw [List.length_append];omega)]
 rw [not_or,List.any_append,Bool.or_eq_true,not_or,List.length_append]
 exact ⟨⟨(not_or.1 a2).1,(not_or.1 b2).1⟩,by omega⟩
structure BigL (l:List PEntry):Prop where
 len:l.length≤20000000000000
 parts:∀e∈l,e.attrs.length≤20000000000000∧e.vec.length≤20000000000000
 times:∀e∈l,Fit64 e.frm∧Fit64 e.to∧Fit64 e.born
 nums:∀e∈l,∀a∈e.attrs,Fit64 a.n
theorem one_pentries (l:List PEntry):(l.flatMap entCellsP).all PV.one=true:=by
 rw [List.all_eq_true]
 intro c hc
 obtain ⟨a,-,h⟩:=List.mem_flatMap.1 hc
 simp only [entCellsP,List.mem_cons,List.not_mem_nil,or_false] at h
 rcases h with rfl|rfl|rfl|rfl|rfl|rfl|rfl|rfl|rfl<;>rfl
theorem fewEs_of {l:List PEntry} (h:∀e∈l,e.vec.length≤40∧e.attrs.length≤20∧∀a∈e.attrs,a.s.size≤300) (k:Nat) (hk:k < l.length):(l.getD k default).vec.length≤1000000∧(l.getD k default).attrs.length≤1000000∧∀a∈(l.getD k default).attrs,a.s.size≤1000000000:=by
 obtain ⟨b1,b2,b3⟩:=h _ (getD_mem hk)
 exact ⟨by omega,by omega,fun a ha=>by have:=b3 a ha;omega⟩
theorem of_field_ok {s:PSchema} {pv:List (List Int)} {m:List PEntry} (hS:SumOK s pv m) (h0:0 < m.length) (hl:m.length≤4096) {k:Nat} (hk:k < s.defs.length):FieldOK ((ofL s pv m).fields.getD k default):=by
 rw [ofL_eq hS h0 hl]
 simp only
 rw [map_getD _ hk]
 exact fieldOfP_ok _ m
set_option maxRecDepth 10000 in
set_option maxHeartbeats 8000000 in
theorem pw_lBoth (s:PSchema) (pv:List (List Int)) (X Y:List PEntry) (hl:s.defs.length≤20000000000000) (hw:∀d∈s.defs,d.words.length≤20000000000000) (hp:pv.length≤20000000000000) (hX:BigL X) (hY:BigL Y) :
  PCalls Tryz.prog 9 [pschema s,pvecs pv,pentries X,pentries Y] (· = pbool true):=by
 have k0:=pw_sanity
 have k1:=pw_lsmall s pv hl hw hp
 have k2:=pw_fewEs X 15 hX.len hX.parts
 have k3:=pw_fewEs Y 15 hY.len hY.parts
 have hls:=low_schCells s
 have hlp:Low (pvecs pv):=(low_pvecs pv).2 trivial
 have hlX:Low (pentries X):=(low_pentries X).2 trivial
 have hlY:Low (pentries Y):=(low_pentries Y).2 trivial
 refine pcalls_of_pw typeTab_ok Tryz.func9 rfl (by kernel_rfl) (by simp [low_pint,low_pints,low_pstr,low_pbool,low_pbox,low_pvecs,low_pentry,low_pentries,low_psum,low_pschema,low_pshells,low_pstrs,low_pfld,low_pdef]) (by simp [pint,pints,pstr,pbool,pbox,pvecs,pentry,pentries,psum,psumL,pschema,pshells,pstrs,pfld,pfldL,pdefL,PV.ownB]) (by rw [Tryz.ntmps9];simp) ?_
 rw [Tryz.ntmps9,Tryz.results9]
 cases e1:(fewDefs6B s && few9 pv 9) with
 |false=>
  rw [e1] at k1
  clear k2 k3
  refine wk ?_
  exact retP (r:=pbool true) rfl (by exact lw) rfl
 |true=>
 rw [e1] at k1
 rw [Bool.and_eq_true] at e1
 have hS:SmallS s:=(fewDefs6B_few e1.1).small
 have hd6:=fewDefs6_len e1.1
 obtain ⟨p1,p2⟩:=few9_get e1.2
 have hpv:∀v∈pv,v.length≤1000000:=fun v hv=>by have:=p2 v hv;omega
 have k4:=pw_lright s pv hS (by omega) hpv
 cases e2:(decide (checkE s=0) && pivS s pv) with
 |false=>
  rw [e2] at k4
  clear k2 k3
  refine wk ?_
  exact retP (r:=pbool true) rfl (by exact lw) rfl
 |true=>
 rw [e2] at k4
 cases e3:fewEs X 15 with
 |false=>
  rw [e3] at k2
  clear k3
  refine wk ?_
  exact retP (r:=pbool true) rfl (by exact lw) rfl
 |true=>
 rw [e3] at k2
 obtain ⟨m1,m2⟩:=fewEs_get e3
 cases e4:fewEs Y 15 with
 |false=>
  rw [e4] at k3
  refine wk ?_
  exact retP (r:=pbool true) rfl (by exact lw) rfl
 |true=>
 rw [e4] at k3
 obtain ⟨n1,n2⟩:=fewEs_get e4
 have hAX:FitL X:=fun e he a ha=>⟨hX.nums e he a ha,by have:=(m2 e he).2.2 a ha;omega⟩
 have hAY:FitL Y:=fun e he a ha=>⟨hY.nums e he a ha,by have:=(n2 e he).2.2 a ha;omega⟩
 have k5:=pw_zOf s pv X hS (by omega) hpv (by omega) (fewEs_of m2)
 have k6:=pw_zOf s pv Y hS (by omega) hpv (by omega) (fewEs_of n2)
 by_cases z1:(zOf s pv X).2=0
 rotate_left
 ·generalize zOf s pv X=J1 at *
  generalize zOf s pv Y=J2 at *
  obtain ⟨x,c⟩:=J1
  obtain ⟨y,d⟩:=J2
  simp only at k5 k6 z1
  have hlx:=low_psumL x
  have hly:=low_psumL y
  refine wk ?_
  exact retP (r:=pbool true) rfl (by exact lw) rfl
 obtain ⟨q1,q2,q3,q4⟩:=zOf_zero z1
 by_cases z2:(zOf s pv Y).2=0
 rotate_left
 ·rw [q4] at k5
  generalize ofL s pv X=x at *
  generalize zOf s pv Y=J2 at *
  obtain ⟨y,d⟩:=J2
  simp only at k5 k6 z2
  have hlx:=low_psumL x
  have hly:=low_psumL y
  refine wk ?_
  exact retP (r:=pbool true) rfl (by exact lw) rfl
 obtain ⟨r1,r2,r3,r4⟩:=zOf_zero z2
 have hSB:SumOK s pv (X ++ Y):=⟨q2.met,q2.len,q2.piv,fun e he=>by
  rcases List.mem_append.1 he with h|h
  ·exact q2.ent e h
  ·exact r2.ent e h⟩
 have hlB:(X ++ Y).length≤30:=by rw [List.length_append];omega
 have h0B:0 < (X ++ Y).length:=by rw [List.length_append];omega
 have hAB:FitL (X ++ Y):=fun e he=>by
  rcases List.mem_append.1 he with h|h
  ·exact hAX e h
  ·exact hAY e h
 have hTB:∀e∈X ++ Y,Fit64 e.frm∧Fit64 e.to∧Fit64 e.born:=fun e he=>by
  rcases List.mem_append.1 he with h|h
  ·exact hX.times e h
  ·exact hY.times e h
 have eB:PV.sl (0+X.length+Y.length) 9 (([] ++ X.flatMap entCellsP) ++ Y.flatMap entCellsP) none=pentries (X ++ Y):=sl_eq (by rw [List.length_append];omega) (by simp)
 have k7:=pw_zOf s pv (X ++ Y) hS (by omega) hpv (by omega) (fewEs_of fun e he=>by
  rcases List.mem_append.1 he with h|h
  ·exact m2 e h
  ·exact n2 e h)
 have zB:zOf s pv (X ++ Y)=(ofL s pv (X ++ Y),0):=by
  exact zOf_both z1 z2 (by rw [List.length_append] at hlB;omega)
 rw [zB,←eB] at k7
 rw [q4] at k5
 rw [r4] at k6
 obtain ⟨sx1,sx2,sx3⟩:=of_small q2 q1 (by omega) hS hAX
 obtain ⟨sy1,sy2,sy3⟩:=of_small r2 r1 (by omega) hS hAY
 obtain ⟨sz1,sz2,sz3⟩:=of_small hSB h0B (by omega) hS hAB
 have dx:=(of_len q2 q1 (by omega)).1
 have dy:=(of_len r2 r1 (by omega)).1
 have dz:=(of_len hSB h0B (by omega)).1
 have k8:=pw_zJoin s _ _ sx1 sy1 sx2 sy2 sx3 sy3 (by omega) (by omega) (by omega)
 have k9:=pw_zJoin s _ _ sy1 sx1 sy2 sx2 sy3 sx3 (by omega) (by omega) (by omega)
 rw [joinSum_eq (fun k hk=>⟨of_field_ok q2 q1 (by omega) hk,of_field_ok r2 r1 (by omega) hk⟩),join_of2 hSB q1 r1 (by omega)] at k8
 rw [joinSum_eq (fun k hk=>⟨of_field_ok r2 r1 (by omega) hk,of_field_ok q2 q1 (by omega) hk⟩),join_of2 hSB.swap r1 q1 (by omega),of_comm hSB q1 r1 (by omega)] at k9
 have hQ:=(of_num hSB h0B (by omega) (by omega) hAB hTB).enc
 have k10:=pw_rSame _ _ hQ hQ
 rw [show ((strI (encZ (ofL s pv (X ++ Y)))).toList == (strI (encZ (ofL s pv (X ++ Y)))).toList)=true by simp] at k10
 have k11:=pw_within s _ _ sx1 sz1 sx2 sz2 (by omega) (by omega) (by omega)
 have k12:=pw_within s _ _ sy1 sz1 sy2 sz2 (by omega) (by omega) (by omega)
 rw [within_of hSB q1 r1 (by omega)] at k11
 rw [←of_comm hSB q1 r1 (by omega),within_of hSB.swap r1 q1 (by omega),of_comm hSB q1 r1 (by omega)] at k12
 clear sx1 sx2 sx3 sy1 sy2 sy3 sz1 sz2 sz3 dx dy dz z1 z2 q4 r4 zB hQ
 generalize ofL s pv (X ++ Y)=z at *
 generalize ofL s pv X=x at *
 generalize ofL s pv Y=y at *
 have hlx:=low_psumL x
 have hly:=low_psumL y
 have hlz:=low_psumL z
 simp only at k5 k6 k7 k8 k9
 refine wk ?_
 refine PWops.idd ?_
 refine PWops.app rfl rfl rfl rfl rfl rfl rfl rfl (by (first|omega|(dsimp only;omega))) (by (first|omega|(dsimp only;omega))) (one_pentries X) ?_
 refine wk ?_
 refine PWops.idd ?_
 refine PWops.app rfl rfl rfl rfl rfl rfl rfl rfl (by (first|omega|(dsimp only;omega))) (by (first|omega|(dsimp only;omega))) (one_pentries Y) ?_
 refine wk ?_
 exact retP (r:=pbool true) rfl (by exact lw) rfl
end
end Go.Proofs.YtoamkpgaaanafaaGreat
