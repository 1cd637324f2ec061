/- Out of: Zr, Sw, Row18b. -/
import Derived.Test.YtoamkpgaaanafaaGreatRows
import Derived.WalkKit
import Derived.WalkSpells
import Derived.WalkLawsBesides
import Derived.Deep.QuietTactic
import Derived.BigQuiet
import Derived.RegionTactic
import Derived.Lib.AppendZeros
import Derived.Lib.AppendStr
import Derived.Lib.Hide
import Derived.OrdersIn
import Derived.Laws.BytesString
import Derived.WideLaws
import Derived.RangeFuncRecord
import Derived.Orders
import GoSem.Step
import Derived.Laws.RangeAny
import Derived.Lib.OthersKept
import Derived.Outline
import Derived.Laws.EntriesVeiled
import Derived.KernelRfl
import Derived.StillTailTactics
import Derived.Deep.Cut
import Derived.RangeFuncCalls
import Derived.Lib.BitFns
import Derived.Test.YtoamkpgaaanafaaGreatShelf
import Derived.Test.YtoamkpgaaanafaaGreatIter
import Derived.Laws.Strings
import Derived.ProofKit
import Derived.OpenShut
import Derived.SizedLaws
import Derived.Deep.Slices
import Derived.Lib.LaidU8
import Derived.LaidMore
import Derived.LaidLaws
import Derived.Stop.Joined
import Derived.MakeChecks
import Derived.Test.YtoamkpgaaanafaaGreatG1
import Derived.Test.YtoamkpgaaanafaaGreatG3
import Derived.Test.YtoamkpgaaanafaaGreatG6
import Derived.Test.YtoamkpgaaanafaaGreatG7
import Derived.Test.YtoamkpgaaanafaaGreatG8
import Derived.Test.YtoamkpgaaanafaaGreatG10
import Derived.Test.YtoamkpgaaanafaaGreatG11
import Derived.Test.YtoamkpgaaanafaaGreatG14
import Derived.Test.YtoamkpgaaanafaaGreatG15
import Derived.Test.YtoamkpgaaanafaaGreatG21
namespace Go.Proofs.YtoamkpgaaanafaaGreat
set_option linter.unusedSimpArgs false
set_option linter.unusedVariables false
set_option linter.unnecessarySimpa false
section
open Go.RowKit
def fldR (s:PSchema) (a b:PSum) (k:Nat):List PV := [.agg (pdefL (s.defs.getD k default)), .agg (pfldL (a.fields.getD k default) ++ pfldL (b.fields.getD k default))]
def fldsL (s:PSchema) (a b:PSum):List (List PV):=(List.range s.defs.length).map (fldR s a b)
theorem fldsL_len (s:PSchema) (a b:PSum):(fldsL s a b).length=s.defs.length:=by simp [fldsL]
theorem fldsL_take {s:PSchema} {a b:PSum} {k:Nat} (h:k < s.defs.length):(fldsL s a b).take (k+1)=(fldsL s a b).take k ++ [fldR s a b k]:=by
 rw [List.take_add_one]
 congr 1
 simp [fldsL,h]
theorem low_fldR (s:PSchema) (a b:PSum) (k:Nat):∀c∈fldR s a b k,Low c:=by
 intro c hc
 simp only [fldR,List.mem_cons,List.not_mem_nil,or_false] at hc
 rcases hc with rfl|rfl
 ·exact low_pdef _
 ·refine .agg _ fun c hc=>?_
  rcases List.mem_append.1 hc with h|h<;>exact low_pfldL _ c h
set_option maxRecDepth 10000 in
set_option maxHeartbeats 2000000 in
theorem it_fields (s:PSchema) (a b:PSum) (h0:s.defs.length≤1000000) (h1:s.defs.length≤a.fields.length) (h2:s.defs.length≤b.fields.length) (h3:a.fields.length≤1000000) (h4:b.fields.length≤1000000) :
  ItSpec Tryz.prog 184 [.ep (schCellsP s) 0, .ep (psumL a) 0, .ep (psumL b) 0] (Part (fldsL s a b)) (· = fldsL s a b):=by
 have hlow1:Low (.ep (schCellsP s) 0):=.ep _ _ (low_schCells s)
 have hlow2:Low (.ep (psumL a) 0):=.ep _ _ (low_psumL a)
 have hlow3:Low (.ep (psumL b) 0):=.ep _ _ (low_psumL b)
 refine itspec_of_pwj typeTab_ok Tryz.func184 rfl (by kernel_rfl) (by simp [hlow1,hlow2,hlow3]) (by simp [PV.ownB]) (by rw [Tryz.ntmps184];simp) ?_
 intro E Φ0 W l hgiv hy hr
 rw [Tryz.ntmps184,Tryz.results184]
 refine jw0 ?_
 refine PWJ.of_pw ?_
 refine wk ?_
 refine jw0 ?_
 refine PWJ.loop (fun k:Nat=>(((((((bot.put 0 (.val (.func (.yield l) #[] #[]))).put 1 (.ep (schCellsP s) 0)).put 2 (.ep (psumL a) 0)).put 3 (.ep (psumL b) 0)).put 8 (pdefs s.defs)).put 9 (pint s.defs.length)).put 10 (pint k))) (fun k=>some ((fldsL s a b).take k)) (fun k=>k≤s.defs.length) (fun k=>s.defs.length - k) 0 (by omega) ?_ (by simp) ?_
 ·exact sb
 ·intro k hk
  by_cases hlt:k < s.defs.length
  ·refine jw0 ?_
   refine PWJ.of_pw ?_
   refine wk ?_
   refine jw0 ?_
   refine PWJ.of_pw ?_
   refine wk ?_
   refine jw0 ?_
   have hlr:=low_fldR s a b k
   refine PWJ.drawN 13 (x:=fldR s a b k) (d:=28) typeTab_ok (by kernel_rfl) hgiv hy hr (by kernel_rfl) (by kernel_rfl) (by rfl) (by rfl) ?_
   refine wk ?_
   refine ⟨⟨rfl,by decide,⟨_,_,rfl,rfl,rfl,rfl⟩,rfl,hlr,⟨k+1,(fldsL_take hlt).symm⟩,fun id bs e=>?_,fun id es c e=>(by cases e)⟩,fun b' => ?_⟩
   ·intro c hc
    by_cases hid:id=2003
    ·subst hid
     cases e
     simp only [List.mem_cons,List.not_mem_nil,or_false] at hc
     rcases hc with rfl|rfl|rfl|rfl|rfl<;>rfl
    ·have hb:Nat.beq id 2003=false:=by rw [←Bool.not_eq_true,Nat.beq_eq];exact hid
     simp [PS.setb,PS.put,bot,upd,hb] at e
   cases b' with
   |true=>
    refine wk ?_
    refine jw0 ?_
    refine PWJ.of_pw ?_
    refine wk ?_
    refine jw0 ?_
    refine loopJ (k+1) (by omega) (by omega) ?_ ?_
    ·exact sb
    ·simp only [if_true];rw [fldsL_take hlt]
   |false=>
    refine wk ?_
    refine jw0 ?_
    exact ⟨⟨_,rfl⟩,fun xs e=>by simp at e⟩
  ·refine jw0 ?_
   refine PWJ.of_pw ?_
   refine wk ?_
   refine jw0 ?_
   exact ⟨⟨_,rfl⟩,fun xs e=>by simp at e;rw [←e];exact List.take_of_length_le (by rw [fldsL_len];omega)⟩
noncomputable def setK (l:List ByteArray):List ByteArray:=l.foldl addK []
theorem foldl_addK (l:List ByteArray):∀ks:List ByteArray,ks.Nodup→(l.foldl addK ks).Nodup∧(∀x,x∈l.foldl addK ks↔x∈ks∨x∈l)∧(l.foldl addK ks).length≤ks.length+l.length:=by
 induction l with
 |nil=>intro ks h;simpa using h
 |cons a r ih=>
  intro ks h
  obtain ⟨h1,h2,h3⟩:=ih (addK ks a) (addK_nodup a h)
  refine ⟨h1,fun x=>?_,?_⟩
  ·rw [List.foldl_cons,h2,addK_mem,List.mem_cons]
   constructor
   ·rintro ((h|h)|h)<;>simp [h]
   ·rintro (h|h|h)<;>simp [h]
  ·rw [List.foldl_cons]
   have:=addK_len ks a
   simp only [List.length_cons];omega
theorem setK_nodup (l:List ByteArray):(setK l).Nodup:=(foldl_addK l [] .nil).1
theorem setK_mem {l:List ByteArray} {x:ByteArray} : x∈setK l↔x∈l:=by
 have:=(foldl_addK l [] .nil).2.1 x
 simpa [setK] using this
theorem setK_len (l:List ByteArray):(setK l).length≤l.length:=by
 have:=(foldl_addK l [] .nil).2.2
 simpa [setK] using this
theorem setK_take {l:List ByteArray} {k:Nat} (h:k < l.length):setK (l.take (k+1))=addK (setK (l.take k)) (l.getD k default):=by
 unfold setK
 rw [List.take_add_one,List.foldl_append,List.getElem?_eq_getElem h]
 simp [h]
theorem sortS_set {l:List ByteArray} (h:Asc l):sortS (setK l)=l:=sortS_eq (setK_nodup l) h fun _=>setK_mem
theorem mergeW_len:∀a b:List ByteArray,(mergeW a b).length≤a.length+b.length
 | [],b=>by simp [mergeW]
 |x :: a,[]=>by simp [mergeW]
 |x :: a,y :: b=>by
  rw [mergeW]
  split
  ·have:=mergeW_len a (y :: b);simp only [List.length_cons] at *; omega
  ·split
   ·have:=mergeW_len a b;simp only [List.length_cons] at *; omega
   ·have:=mergeW_len (x :: a) b;simp only [List.length_cons] at *; omega
termination_by a b=>a.length+b.length
theorem sortS_two {a b:List ByteArray} (ha:Asc a) (hb:Asc b):sortS (setK (a ++ b))=mergeW a b:=by
 obtain ⟨h1,h2⟩:=mergeW_spec a b ha hb
 refine sortS_eq (setK_nodup _) h1 fun x=>?_
 rw [setK_mem,h2,List.mem_append]
end
section
open Go.ChangeShapes Go.WideShapes Go.ChangeAt Go.RowKit
theorem argEntries:ArgOpens Tryz.prog 26 pentries (fun l=>(∀e∈l,GoodE e)∧l.length * 104≤reachBytes):=
 arg_slice Tryz.underlying26 ((opens_slice Tryz.underlying26 (by kernel_rfl) (by decide) (by kernel_rfl) opensEntry (fun _ _=>rfl)).map id (fun a _=>rfl) (fun _ h=>h))
end
end Go.Proofs.YtoamkpgaaanafaaGreat
