/- Out of: PlainK. -/
import Derived.Test.YtoamkpgaaanafaaGreatRows
import Derived.WalkKit
import Derived.WalkSpells
import Derived.WalkLawsBesides
import Derived.Deep.QuietTactic
import Derived.BigQuiet
import Derived.RegionTactic
import GoSem.Step
import Derived.Laws.RangeAny
import Derived.Lib.OthersKept
import Derived.Outline
import Derived.Lib.Hide
import Derived.Laws.EntriesVeiled
import Derived.StillTailTactics
import Derived.Laws.Strings
import Derived.Test.YtoamkpgaaanafaaGreatG1
import Derived.Test.YtoamkpgaaanafaaGreatG6
import Derived.Test.YtoamkpgaaanafaaGreatG8
import Derived.Test.YtoamkpgaaanafaaGreatG15
namespace Go.Proofs.YtoamkpgaaanafaaGreat
set_option linter.unusedSimpArgs false
set_option linter.unusedVariables false
set_option linter.unnecessarySimpa false
section
open Go Go.RowKit
theorem idxGo_first:∀(l:List Bool) (j:Nat) (k:Int),(∀i,i < j→l[i]? = some false)→l[j]? = some true→idxGo l k=k+j
 | [],j,k,_,h=>by simp at h
 |b :: r,0,k,_,h=>by simp at h;subst h;simp [idxGo]
 |b :: r,j+1,k,h1,h2=>by
  have h0:=h1 0 (by omega)
  simp at h0;subst h0
  rw [idxGo,if_neg (by simp),idxGo_first r j (k+1) (fun i hi=>by simpa using h1 (i+1) (by omega)) (by simpa using h2)]
  omega
theorem findI_at {b:ByteArray} {ds:List PDef} (h:DefsOk b ds) {j:Nat} {d:PDef} (hj:ds[j]? = some d):findI ds d.name=j:=by
 unfold findI idxB
 rw [idxGo_first _ j 0 (fun i hi=>?_) (by rw [List.getElem?_map,hj];simp [eqB_self])]
 ·omega
 ·obtain ⟨hj1,hj2⟩:=List.getElem?_eq_some_iff.1 hj
  have:=List.pairwise_iff_getElem.1 h.rise i j (by omega) hj1 hi
  rw [List.getElem?_map,List.getElem?_eq_getElem (by omega:i < ds.length),Option.map_some,←hj2,ltB_ne this]
end
end Go.Proofs.YtoamkpgaaanafaaGreat
