/- Out of: Uc, Ub. -/
import Derived.Test.YtoamkpgaaanafaaGreatRows
import Derived.WalkKit
import Derived.WalkSpells
import Derived.WalkLawsBesides
import Derived.Deep.QuietTactic
import Derived.BigQuiet
import Derived.RegionTactic
import Derived.Lib.AppendZeros
import Derived.Lib.AppendStr
import Derived.Lib.Hide
import Derived.OrdersIn
import Derived.Laws.BytesString
import Derived.WideLaws
import Derived.RangeFuncRecord
import Derived.Orders
import GoSem.Step
import Derived.Laws.RangeAny
import Derived.Lib.OthersKept
import Derived.Outline
import Derived.Laws.EntriesVeiled
import Derived.KernelRfl
import Derived.StillTailTactics
import Derived.Deep.Cut
import Derived.RangeFuncCalls
import Derived.Lib.BitFns
import Derived.Test.YtoamkpgaaanafaaGreatShelf
import Derived.Test.YtoamkpgaaanafaaGreatIter
import Derived.Laws.Strings
import Derived.Test.YtoamkpgaaanafaaGreatG1
import Derived.Test.YtoamkpgaaanafaaGreatG3
import Derived.Test.YtoamkpgaaanafaaGreatG6
import Derived.Test.YtoamkpgaaanafaaGreatG7
import Derived.Test.YtoamkpgaaanafaaGreatG8
import Derived.Test.YtoamkpgaaanafaaGreatG10
import Derived.Test.YtoamkpgaaanafaaGreatG11
import Derived.Test.YtoamkpgaaanafaaGreatG14
import Derived.Test.YtoamkpgaaanafaaGreatG15
import Derived.Test.YtoamkpgaaanafaaGreatG17
import Derived.Test.YtoamkpgaaanafaaGreatG21
import Derived.Test.YtoamkpgaaanafaaGreatG24
import Derived.Test.YtoamkpgaaanafaaGreatG26
import Derived.Test.YtoamkpgaaanafaaGreatG29
import Derived.Test.YtoamkpgaaanafaaGreatG34
import Derived.Test.YtoamkpgaaanafaaGreatG38
import Derived.Test.YtoamkpgaaanafaaGreatG41
namespace Go.Proofs.YtoamkpgaaanafaaGreat
set_option linter.unusedSimpArgs false
set_option linter.unusedVariables false
set_option linter.unnecessarySimpa false
section
open Go.RowKit
def fewDefs6B (s:PSchema):Bool:=(s.defs.take 7).all smallDefB && decide (s.defs.length≤6)
set_option maxRecDepth 10000 in
set_option maxHeartbeats 1000000 in
theorem pw_fewDefs6 (s:PSchema) (hl:s.defs.length≤20000000000000) (hw:∀d∈s.defs,d.words.length≤20000000000000):PCalls Tryz.prog 50 [pschema s,pint 6] (· = pbool (fewDefs6B s)):=by
 refine pcalls_of_pw typeTab_ok Tryz.func50 rfl (by kernel_rfl) (by exact lw) (by simp [pschema,pint,PV.ownB]) (by rw [Tryz.ntmps50];simp) ?_
 rw [Tryz.ntmps50,Tryz.results50]
 refine wk ?_
 refine PW.loop (fun k:Nat=>((((bot.setb 0 (schCellsP s)).put 1 (pint 6)).put 2 (.ptr 0 0)).put 4 (pbool false)).put 5 (pint k)) (fun k=>k≤s.defs.length∧k≤7∧(s.defs.take k).all smallDefB=true) (fun k=>s.defs.length - k) 0 ⟨by omega,by omega,by simp⟩ ?_ ?_
 ·exact sb
 ·rintro k ⟨hk,hk2,hall⟩
  by_cases hlt:k < s.defs.length
  ·by_cases h20:k≤6
   ·obtain ⟨d,hd⟩:=ints_get s.defs k hlt
    have hrow:=flatMap_row (f:=pdefL) (k:=5) (fun _=>rfl) hd
    have hlen:=flatMap_len (f:=pdefL) (k:=5) (fun _=>rfl) s.defs
    have hbad:smallDefB d=false→fewDefs6B s=false:=by
     intro hs
     have:(s.defs.take 7).all smallDefB=false:=by
      rw [List.all_eq_false]
      exact ⟨d,by rw [List.mem_take_iff_getElem];obtain ⟨h3,h4⟩:=List.getElem?_eq_some_iff.1 hd;exact ⟨k,by omega,h4⟩,by simp [hs]⟩
     simp [fewDefs6B,this]
    have hwl:=hw d (mem_of_get hd)
    have hrow' : (((s.defs.flatMap pdefL).drop (k * 5)).take 5).map PV.bare=pdefL d:=by rw [hrow];rfl
    by_cases h60:60 < d.words.length
    ·refine wk ?_
     refine retP rfl (by exact lw) ?_
     rw [hbad (by simp [smallDefB];omega)];rfl
    ·by_cases h100:100 < d.name.size
     ·refine wk ?_
      refine retP rfl (by exact lw) ?_
      rw [hbad (by simp [smallDefB];omega)];rfl
     ·refine wk ?_
      refine PW.loop (fun j:Nat=>((((((bot.setb 0 (schCellsP s)).setb 4005 (pdefL d)).put 1 (pint 6)).put 2 (.ptr 0 0)).put 4 (pbool false)).put 5 (pint k)).put 6 (.ptr 4005 0) |>.put 7 (pint j)) (fun j=>j≤d.words.length∧(d.words.take j).all (fun s=>decide (s.size≤100))=true) (fun j=>d.words.length - j) 0 ⟨by omega,by simp⟩ ?_ ?_
      ·exact sb
      ·rintro j ⟨hj,hja⟩
       by_cases hjl:j < d.words.length
       ·obtain ⟨x,hx⟩:=ints_get d.words j hjl
        have hx':=map_get (f:=pstr) hx
        by_cases hx100:100 < x.size
        ·refine wk ?_
         refine retP rfl (by exact lw) ?_
         rw [hbad ?_]
         ·rfl
         ·have:d.words.all (fun s=>decide (s.size≤100))=false:=by
           rw [List.all_eq_false];exact ⟨x,mem_of_get hx,by simp;omega⟩
          simp [smallDefB,this]
        ·refine wk ?_
         refine loopP (j+1) ⟨by omega,?_⟩ (by omega) ?_
         ·rw [List.take_add_one,List.all_append,hja,hx]
          simp;omega
         ·exact sb
       ·have hwa:d.words.all (fun s=>decide (s.size≤100))=true:=by rw [List.take_of_length_le (by omega)] at hja;exact hja
        refine wk ?_
        refine loopP (k+1) ⟨by omega,by omega,?_⟩ (by omega) ?_
        ·rw [List.take_add_one,List.all_append,hall,hd]
         simp only [Option.toList_some,List.all_cons,List.all_nil,Bool.and_true,Bool.true_and]
         simp only [smallDefB,hwa,Bool.and_true,Bool.and_eq_true,decide_eq_true_eq];omega
        ·exact sb
   ·have hr:fewDefs6B s=false:=by simp [fewDefs6B];omega
    have h20' : ¬s.defs.length≤6:=by omega
    refine wk ?_
    refine retP rfl (by exact lw) ?_
    rw [hr];rfl
  ·have e21:(s.defs.take 7).all smallDefB=true:=by
    rw [List.take_of_length_le (by omega)] at hall
    rw [List.all_eq_true] at hall ⊢
    exact fun x hx=>hall x (List.mem_of_mem_take hx)
   by_cases h20:s.defs.length≤6
   ·refine wk ?_
    refine retP rfl (by exact lw) ?_
    simp [fewDefs6B,e21,h20,pbool]
   ·refine wk ?_
    refine retP rfl (by exact lw) ?_
    simp [fewDefs6B,h20,pbool]
theorem fewDefs6B_few {s:PSchema} (h:fewDefs6B s=true):FewS s:=by
 simp only [fewDefs6B,Bool.and_eq_true,decide_eq_true_eq,List.all_eq_true] at h
 obtain ⟨h1,h2⟩:=h
 refine ⟨by omega,fun d hd=>?_⟩
 rw [List.take_of_length_le (by omega)] at h1
 have:=h1 d hd
 simpa [smallDefB,FewD] using this
theorem fewDefs6_len {s:PSchema} (h:fewDefs6B s=true):s.defs.length≤6:=by
 simp only [fewDefs6B,Bool.and_eq_true,decide_eq_true_eq] at h
 exact h.2
set_option maxRecDepth 10000 in
theorem pw_lsmall (s:PSchema) (pv:List (List Int)) (hl:s.defs.length≤20000000000000) (hw:∀d∈s.defs,d.words.length≤20000000000000) (hp:pv.length≤20000000000000):PCalls Tryz.prog 11 [pschema s,pvecs pv] (· = pbool (fewDefs6B s && few9 pv 9)):=by
 have c1:=pw_fewDefs6 s hl hw
 have c2:=pw_r9Few pv 9 hp
 have hls:=low_schCells s
 refine pcalls_of_pw typeTab_ok Tryz.func11 rfl (by kernel_rfl) (by simp [low_pint,low_pints,low_pstr,low_pbool,low_pbox,low_pvecs,low_pentry,low_pentries,low_psum,low_pschema,low_pshells,low_pstrs,low_pfld,low_pdef]) (by simp [pint,pints,pstr,pbool,pbox,pvecs,pentry,pentries,psum,psumL,pschema,pshells,pstrs,pfld,pfldL,pdefL,PV.ownB]) (by rw [Tryz.ntmps11];simp) ?_
 rw [Tryz.ntmps11,Tryz.results11]
 cases e1:fewDefs6B s with
 |false=>
  rw [e1] at c1
  refine wk ?_
  exact retP rfl (by exact lw) rfl
 |true=>
  rw [e1] at c1
  cases e2:few9 pv 9 <;>
  ·rw [e2] at c2
   refine wk ?_
   exact retP rfl (by exact lw) rfl
set_option maxRecDepth 10000 in
theorem pw_lright (s:PSchema) (pv:List (List Int)) (hs:SmallS s) (h1:pv.length≤1000000) (h2:∀v∈pv,v.length≤1000000):PCalls Tryz.prog 24 [pschema s,pvecs pv] (· = pbool (decide (checkE s=0) && pivS s pv)):=by
 have c1:=pcRefCheck s hs
 have c2:=pw_rPivots s pv h1 h2
 have hls:=low_schCells s
 refine pcalls_of_pw typeTab_ok Tryz.func24 rfl (by kernel_rfl) (by simp [low_pint,low_pints,low_pstr,low_pbool,low_pbox,low_pvecs,low_pentry,low_pentries,low_psum,low_pschema,low_pshells,low_pstrs,low_pfld,low_pdef]) (by simp [pint,pints,pstr,pbool,pbox,pvecs,pentry,pentries,psum,psumL,pschema,pshells,pstrs,pfld,pfldL,pdefL,PV.ownB]) (by rw [Tryz.ntmps24];simp) ?_
 rw [Tryz.ntmps24,Tryz.results24]
 generalize checkE s=c at *
 by_cases e1:c=0
 ·cases e2:pivS s pv <;>
  ·rw [e2] at c2
   refine wk ?_
   exact retP rfl (by exact lw) (by simp [pbool,e1])
 ·refine wk ?_
  exact retP rfl (by exact lw) (by simp [pbool,e1])
set_option maxRecDepth 10000 in
set_option maxHeartbeats 8000000 in
theorem pw_sanity:PCalls Tryz.prog 14 [] (· = pbool true):=by
 have c0:=pw_example
 have c1:PCalls Tryz.prog 15 [pschema exS, .nilsl,pentries [exA,exB]] (· = .tup [psum exZ,pint 0]):=by
  have:=pw_zOf exS [] [exA,exB] smallS_ex (by simp) (by simp) (by simp) (fun k hk=>by
   match k,hk with
   |0,_=>exact ⟨by decide,by decide,by decide⟩
   |1,_=>exact ⟨by decide,by decide,by decide⟩)
  rw [zOf_ex] at this
  exact this.weakA (.cons (.refl _) (.cons (.nil 1) (.cons (.refl _) .nil)))
 have c2:PCalls Tryz.prog 17 [psum exZ,exWant] (· = pbool true):=by
  have:=pw_rSame exZ exZ exEnc exEnc
  rw [show ((strI (encZ exZ)).toList == (strI (encZ exZ)).toList)=true by simp] at this
  exact this.weakA (.cons (.refl _) (.cons weak_want .nil))
 have c3:PCalls Tryz.prog 19 [pschema exS,pint 0,psum exZ] (· = pbool true):=by
  have:=pw_sumValid exS 0 exZ smallZ_ex (by decide) (fun k=>by
   match k with
   |0=>decide
   |1=>decide
   |k+2=>exact (by decide:(0:Nat)≤1000000))
  rw [ex1] at this
  exact this
 have c4:PCalls Tryz.prog 25 [pschema exS,psum exZ,pints [0], .nilsl] (· = .tup [pint 3,pint 0]):=by
  have:=pw_zBound exS exZ [0] [] smallZ_ex (by decide) (by decide)
  rw [ex2] at this
  exact this.weakA (.cons (.refl _) (.cons (.refl _) (.cons (.refl _) (.cons (.nil 1) .nil))))
 have c5:=canOf ex3 rfl (okP_ex (by decide) (by decide) (by rw [exF1];decide))
 have c6:=canOf ex4 rfl (okP_ex (by decide) (by decide) (by rw [exF2];decide))
 have c7:=canOf ex5 rfl (okP_ex (by decide) (by decide) (by rw [exF1];decide))
 have c8:=pw_zSeen exZ ⟨0,9⟩
 have c9:=pw_zSeen exZ ⟨1,0⟩
 have c10:=pw_zSeen exZ ⟨3,2⟩
 rw [ex6] at c8
 rw [ex7] at c9
 rw [ex8] at c10
 have c11:=obeysOf (e:=exA) ex9 rfl (by decide)
 have c12:=obeysOf (e:=exO) ex10 rfl (by decide)
 have l1:=low_schCells exS
 have l2:=low_psumL exZ
 have l3:=low_entCells exA
 have l4:=low_entCells exO
 have l5:Low (pentries [exA,exB]):=(low_pentries _).2 trivial
 have l6:∀c ∈ [pint 2,pints [3],pints [7], .nilsl,pint 1,pint 5,pint 1048577,pint 1,pint 4, .sl 2 4 [pint 2,pint 0,pint 0, .sl 2 1 [pstr nBlue,pstr nRed] none,pint 1,pint 2,pint 2, .nilsl] none],Low c:=by
  simp [low_pints,low_pint,low_sl,low_pstr,low_nilsl]
 refine pcalls_of_pw typeTab_ok Tryz.func14 rfl (by kernel_rfl) (by simp) (by simp) (by rw [Tryz.ntmps14];simp) ?_
 rw [Tryz.ntmps14,Tryz.results14]
 have hl2 : [exA,exB].length=2:=rfl
 have hl3:exA.attrs.length=1:=rfl
 unfold exWant at c2
 unfold prRaw p1 at c5
 unfold prRaw p2 at c6
 unfold prRaw p3 at c7
 unfold psnap at c8 c9 c10
 refine wk ?_
 exact retP rfl (by exact lw) rfl
end
end Go.Proofs.YtoamkpgaaanafaaGreat
