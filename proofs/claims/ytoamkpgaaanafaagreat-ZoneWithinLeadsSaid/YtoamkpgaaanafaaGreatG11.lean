/- Out of: AttrE, AttrF, AttrJ, PwV, PwW, PwX, PwY, PwZ, PwZ2, PwWk, PwT. -/
import Derived.Test.YtoamkpgaaanafaaGreatRows
import Derived.WalkKit
import Derived.WalkSpells
import Derived.WalkLawsBesides
import Derived.Deep.QuietTactic
import Derived.BigQuiet
import Derived.RegionTactic
import GoSem.Step
import Derived.Laws.RangeAny
import Derived.Lib.OthersKept
import Derived.Outline
import Derived.Lib.Hide
import Derived.Laws.EntriesVeiled
import Derived.Lib.AppendZeros
import Derived.Lib.AppendStr
import Derived.OrdersIn
import Derived.Laws.BytesString
import Derived.WideLaws
import Derived.RangeFuncRecord
import Derived.Orders
import Derived.KernelRfl
import Derived.Test.YtoamkpgaaanafaaGreatG1
import Derived.Test.YtoamkpgaaanafaaGreatG3
import Derived.Test.YtoamkpgaaanafaaGreatG5
import Derived.Test.YtoamkpgaaanafaaGreatG6
import Derived.Test.YtoamkpgaaanafaaGreatG7
import Derived.Test.YtoamkpgaaanafaaGreatG8
import Derived.Test.YtoamkpgaaanafaaGreatG10
namespace Go.Proofs.YtoamkpgaaanafaaGreat
set_option linter.unusedSimpArgs false
set_option linter.unusedVariables false
set_option linter.unnecessarySimpa false
section
open Go.RowKit
theorem flat_get {α:Type} (k:Nat):∀(rows:List (List α)),(∀r∈rows,r.length=k)→∀(i j:Nat) (r:List α) (u:α),rows[i]? = some r→r[j]? = some u→rows.flatten[i * k+j]? = some u
 | [],_,i,j,r,u,h,_=>by simp at h
 |x :: xs,hk,0,j,r,u,h,hu=>by
  simp at h;subst h
  have hj:j < x.length:=(List.getElem?_eq_some_iff.1 hu).1
  rw [List.flatten_cons,Nat.zero_mul,Nat.zero_add,List.getElem?_append_left hj]
  exact hu
 |x :: xs,hk,i+1,j,r,u,h,hu=>by
  have hx:=hk x (by simp)
  rw [List.flatten_cons,List.getElem?_append_right (by rw [hx,Nat.succ_mul];omega),hx]
  have e:(i+1) * k+j - k=i * k+j:=by rw [Nat.succ_mul];omega
  rw [e]
  exact flat_get k xs (fun r hr=>hk r (by simp [hr])) i j r u (by simpa using h) hu
theorem RdS.lit (w:World) (k:Nat) (rows:List (List Value)) (hk:∀r∈rows,r.length=k) (T:TypeId) (hm:rows.length≤maxLen) :
  RdS (w.alloc (.cells rows.flatten.toArray T)) (.slice (some ⟨w.heap.size,0,none⟩) rows.length rows.length) k rows:=by
 refine ⟨_,_,w.heap.size,0,rfl,Nat.le_refl _,hm,fun _=>rfl,fun i j r u hr hu=>?_⟩
 have:=flat_get k rows hk i j r u hr hu
 rw [←this]
 simp [cell_of_row _ _ _ _ _ (0,0) (heap_alloc_new w (.cells rows.flatten.toArray T))]
theorem Rules.lit (w:World) (rs:List Rule) (T:TypeId) (hm:rs.length≤1000):Rules (w.alloc (.cells (rs.map ruleC).flatten.toArray T)) (.slice (some ⟨w.heap.size,0,none⟩) rs.length rs.length) rs:=by
 have:=RdS.lit w 2 (rs.map ruleC) (by intro r hr;obtain ⟨x,_,rfl⟩:=List.mem_map.1 hr;rfl) T (by simp [maxLen];omega)
 simpa [Rules] using this
theorem Rules.mk {w:World} {g n:Nat} {T:TypeId} {cs:Array Value} (rs:List Rule) (hm:rs.length≤1000) (hg:g=w.heap.size) (hn:n=rs.length) (hcs:cs=(rs.map ruleC).flatten.toArray) :
  Rules (w.alloc (.cells cs T)) (.slice (some ⟨g,0,none⟩) n n) rs:=by
 subst hg hn hcs
 exact Rules.lit w rs T hm
def defA (d:PDef) (bf:ByteArray):List (Bool×Int) := [(!nameB d.name,5),(leqB d.name bf,6),(kindBad d,130)]
def defBI (d:PDef):List (Bool×Int) := [(rangeBad d,131),(decide (0 < d.words.length),3)]
def defBW (d:PDef):List (Bool×Int) := [(formBad d,3),(manyBad d,2),(d.words.any fun s => !nameB s,5),(!riseB d.words,6)]
theorem defE_bad (d:PDef) (bf:ByteArray) (h:firstE (defA d bf)≠0):defE d bf=firstE (defA d bf):=by
 unfold defE
 revert h
 simp only [defA,firstE,kindBad]
 cases nameB d.name<;>cases leqB d.name bf<;>simp<;>(try (intro h1 h2;rw [if_neg h1,if_neg h2,if_pos ⟨h1,h2⟩]))
theorem defE_int (d:PDef) (bf:ByteArray) (h:firstE (defA d bf)=0) (hk:d.kind=1):defE d bf=firstE (defBI d):=by
 unfold defE
 revert h
 simp only [defA,firstE,kindBad,defBI,rangeBad]
 cases nameB d.name<;>cases leqB d.name bf<;>simp [hk]
theorem defE_word (d:PDef) (bf:ByteArray) (h:firstE (defA d bf)=0) (hk:d.kind≠1):defE d bf=firstE (defBW d):=by
 unfold defE
 revert h
 simp only [defA,firstE,kindBad,defBW,formBad,manyBad,wordsE]
 cases nameB d.name<;>cases leqB d.name bf<;>simp [hk]
 intro h2'
 cases riseB d.words<;>simp [h2']
theorem DefAt.box (w:World) (d:PDef) (wv:Value) (T:TypeId):DefAt (w.alloc (.cells #[.string d.name, .int .i64 d.kind, .int .i64 d.lo, .int .i64 d.hi,wv] T)) w.heap.size 0 d wv:=by
 refine ⟨?_,?_,?_,?_,?_⟩<;>simp
theorem below_two (w:World) (o p:Obj):Below w.heap.size w ((w.alloc o).alloc p):=(below_alloc w o).trans ((below_alloc _ p).mono (below_alloc w o).size)
theorem below_three (w:World) (o p q:Obj):Below w.heap.size w (((w.alloc o).alloc p).alloc q):=(below_two w o p).trans ((below_alloc _ q).mono (below_two w o p).size)
theorem blift {w w1 w2:World} (h:Below w.heap.size w w1) (h2:Below w1.heap.size w1 w2):Below w.heap.size w w2:=h.trans (h2.mono h.size)
def EnvD (d:PDef) (wv:Value) (bf:ByteArray) (g h:Nat) (w:World):Prop:=DefAt w g 0 d wv∧Strs w wv d.words∧w.cell? ⟨h,0,none⟩=some (.string bf)
theorem EnvD.below {d:PDef} {wv:Value} {bf:ByteArray} {g h:Nat} {w w' : World} (e:EnvD d wv bf g h w) (hb:Below w.heap.size w w'):EnvD d wv bf g h w':=
 ⟨e.1.below hb,e.2.1.below hb,below_cell hb e.2.2⟩
def rulesA (d:PDef) (bf:ByteArray) (g h:Nat):List Rule := [⟨213,#[.pointer (some ⟨g,0,none⟩)],!nameB d.name,5⟩,⟨215,#[.pointer (some ⟨g,0,none⟩), .pointer (some ⟨h,0,none⟩)],leqB d.name bf,6⟩,⟨216,#[.pointer (some ⟨g,0,none⟩)],kindBad d,130⟩]
def rulesBI (d:PDef) (g:Nat):List Rule := [⟨217,#[.pointer (some ⟨g,0,none⟩)],rangeBad d,131⟩,⟨218,#[.pointer (some ⟨g,0,none⟩)],decide (0 < d.words.length),3⟩]
def rulesBW (d:PDef) (g:Nat):List Rule := [⟨219,#[.pointer (some ⟨g,0,none⟩)],formBad d,3⟩,⟨220,#[.pointer (some ⟨g,0,none⟩)],manyBad d,2⟩,⟨221,#[.pointer (some ⟨g,0,none⟩)],d.words.any fun s => !nameB s,5⟩,⟨223,#[.pointer (some ⟨g,0,none⟩)],!riseB d.words,6⟩]
theorem runA {d:PDef} {wv:Value} {bf:ByteArray} {g h:Nat} {w:World} (e:EnvD d wv bf g h w) (hs:SmallD d) (v:Value) (hv:Rules w v (rulesA d bf g h)) :
  Calls Tryz.prog 87 #[v] w (RetI w (firstE (defA d bf))):=by
 refine attrFirst v (rulesA d bf g h) w hv (Nat.le_of_ble_eq_true rfl) ?_ ?_
 ·intro r hr
  simp only [rulesA,List.mem_cons,List.not_mem_nil,or_false] at hr
  rcases hr with rfl|rfl|rfl
  ·exact cD1
  ·exact cD2
  ·exact cD3
 ·intro r hr w' hb
  have e':=e.below hb
  simp only [rulesA,List.mem_cons,List.not_mem_nil,or_false] at hr
  rcases hr with rfl|rfl|rfl
  ·exact def1 g d wv w' e'.1 hs.1
  ·exact def2 g h d wv bf w' e'.1 e'.2.2
  ·exact def3 g d wv w' e'.1
theorem runBI {d:PDef} {wv:Value} {bf:ByteArray} {g h:Nat} {w:World} (e:EnvD d wv bf g h w) (hs:SmallD d) (v:Value) (hv:Rules w v (rulesBI d g)) :
  Calls Tryz.prog 87 #[v] w (RetI w (firstE (defBI d))):=by
 refine attrFirst v (rulesBI d g) w hv (Nat.le_of_ble_eq_true rfl) ?_ ?_
 ·intro r hr
  simp only [rulesBI,List.mem_cons,List.not_mem_nil,or_false] at hr
  rcases hr with rfl|rfl
  ·exact cD4
  ·exact cD5
 ·intro r hr w' hb
  have e':=e.below hb
  simp only [rulesBI,List.mem_cons,List.not_mem_nil,or_false] at hr
  rcases hr with rfl|rfl
  ·exact def4 g d wv w' e'.1
  ·exact def5 g d wv w' e'.1 e'.2.1 hs.2.1
theorem runBW {d:PDef} {wv:Value} {bf:ByteArray} {g h:Nat} {w:World} (e:EnvD d wv bf g h w) (hs:SmallD d) (v:Value) (hv:Rules w v (rulesBW d g)) :
  Calls Tryz.prog 87 #[v] w (RetI w (firstE (defBW d))):=by
 refine attrFirst v (rulesBW d g) w hv (Nat.le_of_ble_eq_true rfl) ?_ ?_
 ·intro r hr
  simp only [rulesBW,List.mem_cons,List.not_mem_nil,or_false] at hr
  rcases hr with rfl|rfl|rfl|rfl
  ·exact cD6
  ·exact cD7
  ·exact cD8
  ·exact cD9
 ·intro r hr w' hb
  have e':=e.below hb
  simp only [rulesBW,List.mem_cons,List.not_mem_nil,or_false] at hr
  rcases hr with rfl|rfl|rfl|rfl
  ·exact def6 g d wv w' e'.1
  ·exact def7 g d wv w' e'.1 e'.2.1 hs.2.1
  ·exact def8 g d wv w' e'.1 e'.2.1 hs.2.1 hs.2.2
  ·exact def9 g d wv w' e'.1 e'.2.1 hs.2.1
theorem EnvD.boxes (d:PDef) (wv:Value) (bf:ByteArray) (w:World) (hs:Strs w wv d.words) (o:Obj) :
  EnvD d wv bf w.heap.size (w.heap.size+1) (((w.alloc (.cells #[.string d.name, .int .i64 d.kind, .int .i64 d.lo, .int .i64 d.hi,wv] 77)).alloc (.cells #[.string bf] 9)).alloc o):=by
 refine EnvD.below ⟨(DefAt.box w d wv _).below (below_alloc _ _),hs.below (below_two _ _ _),?_⟩ (below_alloc _ _)
 have:=cell_of_row _ _ 0 _ _ (0,0) (heap_alloc_new (w.alloc (.cells #[.string d.name, .int .i64 d.kind, .int .i64 d.lo, .int .i64 d.hi,wv] 77)) (.cells #[.string bf] 9))
 simpa using this
set_option maxRecDepth 100000 in
set_option maxHeartbeats 1000000 in
theorem attrDef (d:PDef) (wv:Value) (bf:ByteArray) (w:World) (hs:Strs w wv d.words) (hsm:SmallD d) :
  Calls Tryz.prog 132 #[defV d wv, .string bf] w (RetI w (defE d bf)):=by
 have HE:=Lib.hid (EnvD.boxes d wv bf w hs)
 have HS:=Lib.hid hsm
 have HB:=fun o=>below_three w (.cells #[.string d.name, .int .i64 d.kind, .int .i64 d.lo, .int .i64 d.hi,wv] 77) (.cells #[.string bf] 9) o
 have HB:=Lib.hid HB
 clear hs hsm
 unfold defV
 by_cases e1:firstE (defA d bf)=0
 ·have E1:(firstE (defA d bf) != 0)=false:=by simpa using e1
  by_cases hk:d.kind=1
  ·have F:=defE_int d bf e1 hk
   have K:(d.kind == 1)=true:=by simpa using hk
   rw [F]
   clear F e1 hk
   go_enter Tryz.func132,Tryz.ntmps132
   go_wp2_with fail
   refine (runA (HE.out _) HS.out _ (Rules.mk (rulesA d bf _ _) (Nat.le_of_ble_eq_true rfl) (by simp) rfl rfl)).mono ?_
   rintro e w1 ⟨rfl,hb⟩
   have hE:=Lib.hid ((HE.out _).below hb)
   have hB:=Lib.hid (blift (HB.out _) hb)
   clear HE HB hb
   generalize firstE (defA d bf)=x1 at *
   have c1:=hE.out.1.2.1
   go_wp2_with fail
   refine (runBI (hE.out.below (below_alloc _ _)) HS.out _ (Rules.mk (rulesBI d _) (Nat.le_of_ble_eq_true rfl) (by simp) rfl rfl)).mono ?_
   rintro e w2 ⟨rfl,hb⟩
   go_wp2
   go_ret
   exact RetI.mk rfl (blift (blift hB.out (below_alloc _ _)) hb)
  ·have F:=defE_word d bf e1 hk
   have K:(d.kind == 1)=false:=by simpa using hk
   rw [F]
   clear F e1 hk
   go_enter Tryz.func132,Tryz.ntmps132
   go_wp2_with fail
   refine (runA (HE.out _) HS.out _ (Rules.mk (rulesA d bf _ _) (Nat.le_of_ble_eq_true rfl) (by simp) rfl rfl)).mono ?_
   rintro e w1 ⟨rfl,hb⟩
   have hE:=Lib.hid ((HE.out _).below hb)
   have hB:=Lib.hid (blift (HB.out _) hb)
   clear HE HB hb
   generalize firstE (defA d bf)=x1 at *
   have c1:=hE.out.1.2.1
   go_wp2_with fail
   refine (runBW (hE.out.below (below_alloc _ _)) HS.out _ (Rules.mk (rulesBW d _) (Nat.le_of_ble_eq_true rfl) (by simp) rfl rfl)).mono ?_
   rintro e w2 ⟨rfl,hb⟩
   go_wp2
   go_ret
   exact RetI.mk rfl (blift (blift hB.out (below_alloc _ _)) hb)
 ·have F:=defE_bad d bf e1
  have E1:(firstE (defA d bf) != 0)=true:=by simpa using e1
  rw [F]
  clear F e1
  go_enter Tryz.func132,Tryz.ntmps132
  go_wp2_with fail
  refine (runA (HE.out _) HS.out _ (Rules.mk (rulesA d bf _ _) (Nat.le_of_ble_eq_true rfl) (by simp) rfl rfl)).mono ?_
  rintro e w1 ⟨rfl,hb⟩
  have hB:=Lib.hid (blift (HB.out _) hb)
  clear HE HB hb
  generalize firstE (defA d bf)=x1 at *
  go_wp2
  go_ret
  exact RetI.mk rfl hB.out
def SmallS (s:PSchema):Prop:=s.defs.length≤1000∧∀d∈s.defs,SmallD d
def argBad (s:PSchema):Bool:=decide (s.dims < 1) || (decide (32 < s.dims) || (decide (s.metric < 1) || decide (3 < s.metric)))
def chkGo (x:Int) (b:ByteArray) (l:List PDef):Int:=if x≠0 then x else defsE b l
theorem chkGo_drop (l:List PDef) (k:Nat) (b:ByteArray) (d:PDef) (h:l[k]? = some d):chkGo 0 b (l.drop k)=chkGo (defE d b) d.name (l.drop (k+1)):=by
 obtain ⟨hk,rfl⟩:=List.getElem?_eq_some_iff.1 h
 rw [List.drop_eq_getElem_cons (by omega)]
 simp [chkGo,defsE]
theorem chkGo_end (l:List PDef) (k:Nat) (x:Int) (b:ByteArray) (h:l.length≤k):chkGo x b (l.drop k)=x:=by
 rw [List.drop_eq_nil_of_le h]
 simp [chkGo,defsE]
 intro h;exact h.symm
theorem chkGo_bad (x:Int) (b:ByteArray) (l:List PDef) (h:x≠0):chkGo x b l=x:=by simp [chkGo,h]
theorem checkE_chk (s:PSchema):checkE s=chkGo (firstE [(argBad s,1),(decide (16 < s.defs.length),2)]) ByteArray.empty s.defs:=by
 unfold checkE chkGo
 simp only [firstE,argBad,Bool.or_eq_true,decide_eq_true_eq]
 by_cases h:s.dims < 1∨32 < s.dims∨s.metric < 1∨3 < s.metric
 ·simp only [if_pos h];simp
 ·by_cases h2:16 < s.defs.length
  ·simp only [if_neg h,if_pos h2];simp
  ·simp only [if_neg h,if_neg h2];simp
def SchAt (w:World) (g:Nat) (s:PSchema) (dv:Value):Prop:=w.cell? ⟨g,0,none⟩=some (.int .i64 s.dims)∧w.cell? ⟨g,1,none⟩=some (.int .i64 s.metric)∧w.cell? ⟨g,2,none⟩=some dv∧Defs w dv s.defs
theorem SchAt.below {w w' : World} {g:Nat} {s:PSchema} {dv:Value} (h:SchAt w g s dv) (hb:Below w.heap.size w w'):SchAt w' g s dv:=
 ⟨below_cell hb h.1,below_cell hb h.2.1,below_cell hb h.2.2.1,h.2.2.2.below hb⟩
theorem SchAt.box (w:World) (s:PSchema) (dv:Value) (T:TypeId) (h:Defs w dv s.defs):SchAt (w.alloc (.cells #[.int .i64 s.dims, .int .i64 s.metric,dv] T)) w.heap.size s dv:=by
 refine ⟨?_,?_,?_,h.below (below_alloc _ _)⟩<;>simp
theorem check1 (g:Nat) (s:PSchema) (dv:Value) (w:World) (h:SchAt w g s dv):Calls Tryz.prog 130 #[.pointer (some ⟨g,0,none⟩)] w (RetB w (argBad s)):=by
 obtain ⟨c0,c1,c2,-⟩:=h
 cases e:decide (s.dims < 1)<;>cases e2:decide (32 < s.dims)<;>cases e3:decide (s.metric < 1)
 all_goals
  go_enter Tryz.func130,Tryz.ntmps130
  go_wp2
  go_ret
  exact RetB.mk (by simp [argBad,e,e2,e3]) (Below.refl _ _)
theorem check2 (g:Nat) (s:PSchema) (dv:Value) (w:World) (h:SchAt w g s dv) (hl:s.defs.length≤1000):Calls Tryz.prog 131 #[.pointer (some ⟨g,0,none⟩)] w (RetB w (decide (16 < s.defs.length))):=by
 obtain ⟨c0,c1,c2,hd⟩:=h
 obtain ⟨a,cap,b,off,rfl,-⟩:=hd.open
 have e:decide ((16:Int) < (s.defs.length:Int))=decide (16 < s.defs.length):=by rw [Bool.eq_iff_iff];simp only [decide_eq_true_eq];omega
 have E:=Lib.hid e
 clear e
 go_enter Tryz.func131,Tryz.ntmps131
 go_wp2
 go_ret
 exact RetB.mk E.out (Below.refl _ _)
theorem cC1:CallOk 130:=fun _ _=>by kernel_rfl
theorem cC2:CallOk 131:=fun _ _=>by kernel_rfl
def rulesC (s:PSchema) (g:Nat):List Rule := [⟨130,#[.pointer (some ⟨g,0,none⟩)],argBad s,1⟩,⟨131,#[.pointer (some ⟨g,0,none⟩)],decide (16 < s.defs.length),2⟩]
theorem runC {s:PSchema} {dv:Value} {g:Nat} {w:World} (e:SchAt w g s dv) (hl:s.defs.length≤1000) (v:Value) (hv:Rules w v (rulesC s g)) :
  Calls Tryz.prog 87 #[v] w (RetI w (firstE [(argBad s,1),(decide (16 < s.defs.length),2)])):=by
 refine attrFirst v (rulesC s g) w hv (Nat.le_of_ble_eq_true rfl) ?_ ?_
 ·intro r hr
  simp only [rulesC,List.mem_cons,List.not_mem_nil,or_false] at hr
  rcases hr with rfl|rfl
  ·exact cC1
  ·exact cC2
 ·intro r hr w' hb
  have e':=e.below hb
  simp only [rulesC,List.mem_cons,List.not_mem_nil,or_false] at hr
  rcases hr with rfl|rfl
  ·exact check1 g s dv w' e'
  ·exact check2 g s dv w' e' hl
set_option maxRecDepth 100000 in
set_option maxHeartbeats 1000000 in
theorem attrCheck (v:Value) (s:PSchema) (w:World) (hv:SchemaV w v s) (hsm:SmallS s):Calls Tryz.prog 54 #[v] w (RetI w (checkE s)):=by
 obtain ⟨dv,rfl,hd⟩:=hv
 obtain ⟨s1,s2⟩:=hsm
 have S2:Hid (∀d∈s.defs,SmallD d):=s2
 have HB:=Lib.hid (SchAt.box w s dv 24 hd)
 have hw0:Below w.heap.size w (w.alloc (.cells #[.int .i64 s.dims, .int .i64 s.metric,dv] 24)):=below_alloc _ _
 have C:=Lib.hid (checkE_chk s)
 clear s2 hd
 go_enter Tryz.func54,Tryz.ntmps54
 go_wp2_with fail
 generalize hw:w.alloc (.cells #[.int .i64 s.dims, .int .i64 s.metric,dv] 24)=w0 at *
 have hsz:w.heap.size+1=w0.heap.size:=by rw [←hw];simp
 clear hw
 refine (runC (HB.out.below (below_alloc _ _)) (by omega) _ (Rules.mk (rulesC s _) (Nat.le_of_ble_eq_true rfl) (by rw [←hsz]) rfl rfl)).mono ?_
 rintro e w1 ⟨rfl,hb⟩
 have hb1:=blift (below_alloc _ _) hb
 clear hb hsz
 generalize firstE [(argBad s,1),(decide (16 < s.defs.length),2)]=x1 at *
 have ha:=HB.out.2.2.2.open
 go_wp2
 go_loopw [3,4,5] (fun e b i wr=>∃(k:Nat) (x:Int) (bf:ByteArray),k≤s.defs.length∧i = .int .i64 k∧e = .int .i64 x∧b = .string bf∧Below w0.heap.size w0 wr∧Hid (checkE s=chkGo x bf (s.defs.drop k))) (fun _ _ i _=>s.defs.length - (intOf i).toNat)
 case atStart=>exact ⟨0,x1,_,by omega,rfl,rfl,rfl,hb1,C.out⟩
 case round=>
  obtain ⟨k,x,bf,hk,rfl,rfl,rfl,hb,hh⟩:=hrel
  obtain ⟨a,cap,b,off,rfl,-,-,ha,hc⟩:=ha
  have HS:=Lib.hid (HB.out.below hb)
  have c2:=HS.out.2.2.1
  by_cases hlt:k < s.defs.length
  ·by_cases hx:x=0
   ·subst hx
    obtain ⟨y,hy⟩:=ints_get s.defs k (by omega)
    obtain ⟨wv,hd,hs⟩:=hc.out k y hy
    obtain ⟨d0,d1,d2,d3,d4⟩:=hd.below hb
    have H:=Lib.hid (chkGo_drop s.defs k bf y hy)
    have hs':=Lib.hid (hs.below hb)
    have hsm:=Lib.hid (S2.out y (List.mem_of_getElem? hy))
    obtain rfl:=ha (by omega)
    clear hs hd hc hy ha
    go_wp2_with fail
    refine (attrDef y wv bf _ hs'.out hsm.out).mono ?_
    rintro e w2 ⟨rfl,hb2⟩
    have d0':=below_cell hb2 d0
    have c2':=below_cell hb2 c2
    have hb3:=blift hb hb2
    clear hb hb2 d0 d1 d2 d3 d4 c2 hs'
    go_wp2
    go_roundw
    case rel=>exact ⟨k+1,_,_,by omega,by go_num,rfl,rfl,hb3,by rw [Hid,hh.out,H.out]⟩
    case measure=>simp [intOf];omega
   ·have hx' : (x == 0)=false:=by simpa using hx
    have F:=Lib.hid (chkGo_bad x bf (s.defs.drop k) hx)
    clear hx hc ha
    go_wp2
    go_ret
    exact RetI.mk (by rw [hh.out,F.out]) (blift hw0 hb)
  ·have F:=Lib.hid (chkGo_end s.defs k x bf (by omega))
   clear hc ha
   go_wp2
   go_ret
   exact RetI.mk (by rw [hh.out,F.out]) (blift hw0 hb)
def FewRet (w:World) (p:Prop) (e:Ending) (w' : World):Prop:=∃b:Bool,e = .returned (.bool b)∧(b=true→p)∧Below w.heap.size w w'
theorem FewRet.mk {w w' : World} {p:Prop} {b:Bool} (h:b=true→p) (hb:Below w.heap.size w w'):FewRet w p (.returned (.bool b)) w':=⟨b,rfl,h,hb⟩
def FewD (d:PDef):Prop:=d.words.length≤60∧d.name.size≤100∧∀s∈d.words,s.size≤100
def FewS (s:PSchema):Prop:=s.defs.length≤20∧∀d∈s.defs,FewD d
theorem FewS.small {s:PSchema} (h:FewS s):SmallS s:=⟨by have:=h.1;omega,fun d hd=>⟨by have:=(h.2 d hd).2.1;omega,by have:=(h.2 d hd).1;omega,fun x hx=>by have:=(h.2 d hd).2.2 x hx;omega⟩⟩
def EntAt (w:World) (g:Nat) (e:PEntry) (vv av:Value):Prop:=
 w.cell? ⟨g,0,none⟩=some (.int .i64 e.id)∧w.cell? ⟨g,1,none⟩=some (.int .i64 e.ver)∧w.cell? ⟨g,2,none⟩=some (.int .i64 e.owner)∧w.cell? ⟨g,3,none⟩=some (.int .i64 e.filed) ∧
 w.cell? ⟨g,4,none⟩=some (.int .i64 e.frm)∧w.cell? ⟨g,5,none⟩=some (.int .i64 e.to)∧w.cell? ⟨g,6,none⟩=some (.int .i64 e.born)∧w.cell? ⟨g,7,none⟩=some vv∧w.cell? ⟨g,8,none⟩=some av∧Ints w vv e.vec∧Attrs w av e.attrs
theorem EntAt.below {w w' : World} {g:Nat} {e:PEntry} {vv av:Value} (h:EntAt w g e vv av) (hb:Below w.heap.size w w'):EntAt w' g e vv av:=by
 obtain ⟨h0,h1,h2,h3,h4,h5,h6,h7,h8,h9,h10⟩:=h
 exact ⟨below_cell hb h0,below_cell hb h1,below_cell hb h2,below_cell hb h3,below_cell hb h4,below_cell hb h5,below_cell hb h6,below_cell hb h7,below_cell hb h8,h9.below hb,h10.below hb⟩
theorem EntAt.box (w:World) (e:PEntry) (vv av:Value) (T:TypeId) (h:Ints w vv e.vec) (h2:Attrs w av e.attrs):EntAt (w.alloc (.cells #[.int .i64 e.id, .int .i64 e.ver, .int .i64 e.owner, .int .i64 e.filed, .int .i64 e.frm, .int .i64 e.to, .int .i64 e.born,vv,av] T)) w.heap.size e vv av:=by
 refine ⟨?_,?_,?_,?_,?_,?_,?_,?_,?_,h.below (below_alloc _ _),h2.below (below_alloc _ _)⟩<;>simp
end
section
open Go.RowKit
variable {P:Program} {T:Tab} {σ:PS} {o:Oper} {i base:Nat} {ops:Array Oper} {ok:Nat→Nat→Bool} {rest:List (Nat×Oper)} {K:PS→Prop}
theorem PWops.boolS {d:Nat} {b:Bool} (hk:isCmp o.op=true) (hg:pguard ops σ o=some true) (hd:o.dst=some d) (hE:feff (presE T (headB ops o.dst) (base+i) (σ.only (ok i)) o.op)=some (.val (.bool b))) (hb:σ.freeB (base+i)=true)
  (kt:b=true→PWops P T ops base ok rest K (σ.put d (.val (.bool true)))) (kf:b=false→PWops P T ops base ok rest K (σ.put d (.val (.bool false)))):PWops P T ops base ok ((i,o) :: rest) K σ:=by
 cases b with
 |true=>exact PWops.bool true hg hd hE rfl hb (kt rfl)
 |false=>exact PWops.bool false hg hd hE rfl hb (kf rfl)
theorem PWops.mvC {d:Nat} {x:Operand} {p:PV} (hop:o.op = .move x) (hg:pguard ops σ o=some true) (hd:o.dst=some d) (hx' : ownPV σ x=p) (hn:p.ownB=false) (hb:σ.freeB (base+i)=true) (k:PWops P T ops base ok rest K (σ.put d p)):PWops P T ops base ok ((i,o) :: rest) K σ:=by
 refine PWops.valEq hg hd (p:=p) ?_ rfl hb k
 have hp:pev σ x=p:=by
  cases x with
  |tmp s=>simp only [ownPV] at hx'; simp only [pev,hx'];exact PV.bare_of _ hn
  |_=>exact hx'
 simp only [hop,presE]
 split
 ·cases x with
  |tmp s=>
   simp only [ownPV] at hx'
   have:(σ.only (ok i)).t s=p:=hx'
   simp only [takeE,this,hn]
   simp only [Bool.false_eq_true,if_false,PV.bare_of _ hn]
  |_=>simp only [takeE,pev_only,hp]
 ·simp only [pev_only,hp]
theorem PWops.ldV {d id off:Nat} {x:Operand} {t:TypeId} {ti:TyI} {bs:List PV} {c p:PV} (hop:o.op = .load t x) (hg:pguard ops σ o=some true) (hd:o.dst=some d) (hx:pev σ x = .ptr id off) (hbs:(σ.only (ok i)).b id=some bs) (hc:bs[off]? = some c) (ht:T.at t=some ti) (ha:ti.agg=false) (hq:fval c=some p) (hn:p.ownB=false) (hb:σ.freeB (base+i)=true) (k:PWops P T ops base ok rest K (σ.put d p)):PWops P T ops base ok ((i,o) :: rest) K σ:=by
 have hq':=fval_eq hq
 subst hq'
 refine PWops.valEq hg hd (p:=c) ?_ rfl hb k
 have h1:ploadO T (headB ops o.dst) (σ.only (ok i)).b t (.ptr id off)=none:=by
  simp only [ploadO]
  split
  ·rw [hbs]
   simp only [hc]
   cases c with
   |sl n k cs own=>cases own with
    |none=>rfl
    |some E=>simp [PV.ownB] at hn
   |_=>rfl
  ·rfl
 simp only [hop,presE,pev_only,hx,h1,pvalA,pval,ht,ploadAt,hbs,asVal,ha,hc,Bool.false_eq_true,if_false,Option.map_some,PV.bare_of _ hn]
theorem getD_get {α:Type} {l:List α} {j:Nat} (x:α) (h:j < l.length):l[j]? = some (l.getD j x):=by
 rw [List.getD_eq_getElem?_getD,List.getElem?_eq_getElem h];rfl
theorem PWops.idxZ {d n k e by_:Nat} {z:Int} {cs zr:List PV} {own:Option TypeId} {kk:IntKind} {x ix:Operand} {t:TypeId} {ti:TyI} (hg:pguard ops σ o=some true) (hd:o.dst=some d) (hop:o.op = .indexAddr t x ix) (hx:pev σ x = .sl n k cs own) (hi:pev σ ix = .val (.int kk z)) (ht:T.at t=some ti) (hk:ti.kind = .slice e k by_ zr) (hb:σ.freeB (base+i)=true) (h0:0≤z∧z < n)
  (kn:PWops P T ops base ok rest K (σ.put d (.ep cs (z.toNat * k)))):PWops P T ops base ok ((i,o) :: rest) K σ:=
 PWops.idx (j:=z.toNat) hg hd hop hx (by rw [hi,Int.toNat_of_nonneg h0.1]) ht hk hb (by omega) kn
theorem PWops.idxZ1 {d n e by_:Nat} {z:Int} {cs zr:List PV} {own:Option TypeId} {kk:IntKind} {x ix:Operand} {t:TypeId} {ti:TyI} (hg:pguard ops σ o=some true) (hd:o.dst=some d) (hop:o.op = .indexAddr t x ix) (hx:pev σ x = .sl n 1 cs own) (hi:pev σ ix = .val (.int kk z)) (ht:T.at t=some ti) (hk:ti.kind = .slice e 1 by_ zr) (hb:σ.freeB (base+i)=true) (h0:0≤z∧z < n)
  (kn:PWops P T ops base ok rest K (σ.put d (.ep cs z.toNat))):PWops P T ops base ok ((i,o) :: rest) K σ:=
 PWops.idx1 (j:=z.toNat) hg hd hop hx (by rw [hi,Int.toNat_of_nonneg h0.1]) ht hk hb (by omega) kn
theorem PWops.ldM {α:Type} [Inhabited α] {d off:Nat} {f:α→PV} {l:List α} {q:PV} {x:Operand} {t:TypeId} {ti:TyI} (hg:pguard ops σ o=some true) (hd:o.dst=some d) (hop:o.op = .load t x) (hx:pev σ x = .ep (l.map f) off) (ht:T.at t=some ti) (ha:ti.agg=false) (hb:σ.freeB (base+i)=true) (hl:off < l.length) (hq:fval (f (l.getD off default)).bare=some q)
  (kn:PWops P T ops base ok rest K (σ.put d q)):PWops P T ops base ok ((i,o) :: rest) K σ:=
 PWops.ld hg hd hop hx ht ha hb (map_get (getD_get default hl)) hq kn
theorem PWops.ldR {α:Type} [Inhabited α] {d j k r:Nat} {f:α→List PV} {l:List α} {c q:PV} {x:Operand} {t:TypeId} {ti:TyI} (hg:pguard ops σ o=some true) (hd:o.dst=some d) (hop:o.op = .load t x) (hx:pev σ x = .ep (l.flatMap f) (j * k+r)) (ht:T.at t=some ti) (ha:ti.agg=false) (hb:σ.freeB (base+i)=true) (hk:∀x,(f x).length=k) (hl:j < l.length) (hc:(f (l.getD j default))[r]? = some c) (hq:fval c.bare=some q)
  (kn:PWops P T ops base ok rest K (σ.put d q)):PWops P T ops base ok ((i,o) :: rest) K σ:=
 PWops.ld hg hd hop hx ht ha hb (flatMap_get hk (getD_get default hl) hc) hq kn
theorem PWops.ldRA {α:Type} [Inhabited α] {d j k:Nat} {f:α→List PV} {l:List α} {row:List PV} {x:Operand} {t:TypeId} {kd:TD} {zr:List PV} {es:List SK} (hg:pguard ops σ o=some true) (hd:o.dst=some d) (hop:o.op = .load t x) (hx:pev σ x = .ep (l.flatMap f) (j * k)) (ht:T.at t=some ⟨k,true,kd,zr,es⟩) (hb:σ.freeB (base+i)=true) (hk:∀x,(f x).length=k) (hl:j < l.length) (hr:flist ((f (l.getD j default)).map PV.bare)=some row)
  (kn:PWops P T ops base ok rest K (σ.put d (.agg row))):PWops P T ops base ok ((i,o) :: rest) K σ:=by
 refine PWops.ldA hg hd hop hx ht hb ?_ ?_ kn
 ·rw [flatMap_len hk]
  have:=Nat.mul_le_mul_right k (show j+1≤l.length from hl)
  rw [Nat.succ_mul] at this;exact this
 ·rw [flatMap_row hk (getD_get default hl)];exact flist_eq hr
theorem PWops.slcM {α:Type} {d e by_ n:Nat} {zl zh:Int} {kl kh:IntKind} {f:α→PV} {L:List α} {zr:List PV} {own:Option TypeId} {x lo hi:Operand} {t:TypeId} {ti:TyI} (hg:pguard ops σ o=some true) (hd:o.dst=some d) (hop:o.op = .slice t x (some lo) (some hi) none) (hx:pev σ x = .sl n 1 (L.map f) own) (hlo:pev σ lo = .val (.int kl zl)) (hhi:pev σ hi = .val (.int kh zh)) (ht:T.at t=some ti) (hk:ti.kind = .slice e 1 by_ zr) (hb:σ.freeB (base+i)=true)
  (h1:0≤zl∧zl≤zh∧zh≤n∧n=L.length) (kn:PWops P T ops base ok rest K (σ.put d (.sl ((L.drop zl.toNat).take (zh.toNat - zl.toNat)).length 1 (((L.drop zl.toNat).take (zh.toNat - zl.toNat)).map f) none))):PWops P T ops base ok ((i,o) :: rest) K σ:=by
 refine PWops.slc zl.toNat zh.toNat hg hd hop hx ht hk hb ?_ ?_ ?_
 ·simp only [Option.map_some,hhi,pbound];rw [if_pos ⟨by omega,h1.2.2.1⟩]
 ·simp only [Option.map_some,hlo,pbound];rw [if_pos ⟨h1.1,by omega⟩]
 ·have:PV.sl (zh.toNat - zl.toNat) 1 (((L.map f).drop (zl.toNat * 1)).take ((zh.toNat - zl.toNat) * 1)) none = .sl ((L.drop zl.toNat).take (zh.toNat - zl.toNat)).length 1 (((L.drop zl.toNat).take (zh.toNat - zl.toNat)).map f) none:=
   sl_eq (by rw [List.length_take,List.length_drop];omega) (by rw [Nat.mul_one,Nat.mul_one,List.map_take,List.map_drop])
  rw [this];exact kn
theorem PWops.slcL {α:Type} {d e by_ n:Nat} {zl:Int} {kl:IntKind} {f:α→PV} {L:List α} {zr:List PV} {own:Option TypeId} {x lo:Operand} {t:TypeId} {ti:TyI} (hg:pguard ops σ o=some true) (hd:o.dst=some d) (hop:o.op = .slice t x (some lo) none none) (hx:pev σ x = .sl n 1 (L.map f) own) (hlo:pev σ lo = .val (.int kl zl)) (ht:T.at t=some ti) (hk:ti.kind = .slice e 1 by_ zr) (hb:σ.freeB (base+i)=true)
  (h1:0≤zl∧zl≤n∧n=L.length) (kn:PWops P T ops base ok rest K (σ.put d (.sl (L.drop zl.toNat).length 1 ((L.drop zl.toNat).map f) none))):PWops P T ops base ok ((i,o) :: rest) K σ:=by
 refine PWops.slc zl.toNat n hg hd hop hx ht hk hb rfl ?_ ?_
 ·simp only [Option.map_some,hlo,pbound];rw [if_pos ⟨h1.1,by omega⟩]
 ·have:PV.sl (n - zl.toNat) 1 (((L.map f).drop (zl.toNat * 1)).take ((n - zl.toNat) * 1)) none = .sl (L.drop zl.toNat).length 1 ((L.drop zl.toNat).map f) none:=
   sl_eq (by rw [List.length_drop];omega) (by rw [Nat.mul_one,Nat.mul_one,List.take_of_length_le (by rw [List.length_drop,List.length_map];omega),List.map_drop])
  rw [this];exact kn
theorem PWops.slcH {α:Type} {d e by_ n:Nat} {zh:Int} {kh:IntKind} {f:α→PV} {L:List α} {zr:List PV} {own:Option TypeId} {x hi:Operand} {t:TypeId} {ti:TyI} (hg:pguard ops σ o=some true) (hd:o.dst=some d) (hop:o.op = .slice t x none (some hi) none) (hx:pev σ x = .sl n 1 (L.map f) own) (hhi:pev σ hi = .val (.int kh zh)) (ht:T.at t=some ti) (hk:ti.kind = .slice e 1 by_ zr) (hb:σ.freeB (base+i)=true)
  (h1:0≤zh∧zh≤n∧n=L.length) (kn:PWops P T ops base ok rest K (σ.put d (.sl (L.take zh.toNat).length 1 ((L.take zh.toNat).map f) none))):PWops P T ops base ok ((i,o) :: rest) K σ:=by
 refine PWops.slc 0 zh.toNat hg hd hop hx ht hk hb ?_ rfl ?_
 ·simp only [Option.map_some,hhi,pbound];rw [if_pos ⟨h1.1,h1.2.1⟩]
 ·have:PV.sl (zh.toNat - 0) 1 (((L.map f).drop (0 * 1)).take ((zh.toNat - 0) * 1)) none = .sl (L.take zh.toNat).length 1 ((L.take zh.toNat).map f) none:=
   sl_eq (by rw [List.length_take];omega) (by rw [Nat.mul_one,Nat.zero_mul,List.drop_zero,Nat.sub_zero,List.map_take])
  rw [this];exact kn
end
section
open Go.RowKit
instance:Inhabited ByteArray:=⟨ByteArray.empty⟩
def isStop:Op→Bool
 | .binOp op _ _ _ _=>match op with
  | .eql | .neq | .lss | .leq | .gtr | .geq | .add | .sub | .mul | .quo | .rem=>true
  |_=>false
 | .indexAddr .. => true
 | .slice .. => true
 | .call c=>match c.callee with
  | .builtin .len | .builtin .max | .builtin .min=>false
  |_=>true
 |_=>false
def applyE (σ:PS):Option Nat→Option Eff→Option PS
 |some d,some ⟨v,[],none,[]⟩=>match v with
  | .sl n k cs (some e)=>match flist cs with
   |some l=>some (σ.put d (.sl n k l (some e)))
   |none=>none
  |v=>match fval v with
   |some p=>some (σ.put d p)
   |none=>none
 |some d,some ⟨v,[],some s,[]⟩=>match fval v,fval (σ.t s).bare with
  |some p,some q=>some ((σ.put s q).put d p)
  |_,_=>none
 |some d,some ⟨v,[(id,cs)],none,[]⟩=>match fval v,flist cs with
  |some p,some l=>some ((σ.setb id l).put d p)
  |_,_=>none
 |none,some ⟨_,[(id,cs)],none,[]⟩=>match flist cs with
  |some l=>some (σ.setb id l)
  |none=>none
 |none,some ⟨_,[(id,cs)],some s,[]⟩=>match flist cs,fval (σ.t s).bare with
  |some l,some q=>some ((σ.put s q).setb id l)
  |_,_=>none
 |_,_=>none
def quick (T:Tab) (σ:PS) (ok:Nat→Bool):Op→Option PV
 | .move x=>match fcell (ownPV σ x) with
  |some p=>if p.ownB then none else some p
  |none=>none
 | .extract x i=>match pev σ x with
  | .tup vs=>match vs[i]? with
   |some c=>match fcell c with
    |some p=>if p.ownB then none else some p
    |none=>none
   |none=>none
  |_=>none
 | .load t x=>match pev σ x with
  | .ptr id off=>match ok id,σ.b id,T.at t with
   |true,some bs,some ti=>if ti.agg then none else match bs[off]? with
    |some c=>match fval c with
     |some p=>if p.ownB then none else some p
     |none=>none
    |none=>none
   |_,_,_=>none
  |_=>none
 |_=>none
noncomputable def stepF (T:Tab) (ops:Array Oper) (base:Nat) (ok:Nat→Nat→Bool) (i:Nat) (o:Oper) (σ:PS):Option PS:=
 match pguard ops σ o with
 |some false=>match o.dst with
  |some d=>some (σ.put d (.tup []))
  |none=>none
 |some true=>
  if isStop o.op then none
  else match σ.freeB (base+i) with
   |false=>none
   |true=>match o.dst,quick T σ (ok i) o.op with
    |some d,some p=>some (σ.put d p)
    |_,_=>applyE σ o.dst (presE T (headB ops o.dst) (base+i) (σ.only (ok i)) o.op)
 |none=>none
theorem flatMap_drop {α:Type} {f:α→List PV} {k:Nat} (hk:∀x,(f x).length=k):∀(l:List α) (j:Nat),(l.flatMap f).drop (j * k)=(l.drop j).flatMap f
 |l,0=>by simp
 | [],j+1=>by simp
 |y :: l,j+1=>by
  rw [List.flatMap_cons,List.drop_succ_cons,←flatMap_drop hk l j,Nat.succ_mul,Nat.add_comm,←List.drop_drop,List.drop_left' (hk y)]
theorem flatMap_take {α:Type} {f:α→List PV} {k:Nat} (hk:∀x,(f x).length=k):∀(l:List α) (j:Nat),(l.flatMap f).take (j * k)=(l.take j).flatMap f
 |l,0=>by simp
 | [],j+1=>by simp
 |y :: l,j+1=>by
  rw [List.flatMap_cons,List.take_succ_cons,List.flatMap_cons,←flatMap_take hk l j,Nat.succ_mul,Nat.add_comm,List.take_add,List.take_left' (hk y),List.drop_left' (hk y)]
end
section
open Go.RowKit
variable {P:Program} {T:Tab} {σ σ' : PS} {o:Oper} {i base:Nat} {ops:Array Oper} {ok:Nat→Nat→Bool} {rest:List (Nat×Oper)} {K:PS→Prop}
theorem PWops.applyE {E:Option Eff} (hg:pguard ops σ o=some true) (hE:presE T (headB ops o.dst) (base+i) (σ.only (ok i)) o.op=E) (hb:σ.freeB (base+i)=true) (h:Go.Proofs.YtoamkpgaaanafaaGreat.applyE σ o.dst E=some σ') (k:PWops P T ops base ok rest K σ'):PWops P T ops base ok ((i,o) :: rest) K σ:=by
 have fin:∀e,E=some e→σ.app o.dst e=σ'→PWops P T ops base ok ((i,o) :: rest) K σ:=fun e he h=>PWops.step hg (hE.trans he) hb (by rw [h];exact k)
 unfold Go.Proofs.YtoamkpgaaanafaaGreat.applyE at h
 split at h
 ·rename_i d v hd
  split at h
  ·rename_i n k' cs e
   split at h
   ·rename_i l hl
    cases h
    exact fin _ rfl (by rw [hd,flist_eq hl];rfl)
   ·cases h
  ·split at h
   ·rename_i p hp
    cases h
    exact fin _ rfl (by rw [hd,fval_eq hp];rfl)
   ·cases h
 ·rename_i d v s hd
  split at h
  ·rename_i p q hp hq
   cases h
   exact fin _ rfl (by rw [hd,fval_eq hp];simp only [PS.app,fval_eq hq];rfl)
  ·cases h
 ·rename_i d v id cs hd
  split at h
  ·rename_i p l hp hl
   cases h
   exact fin _ rfl (by rw [hd,fval_eq hp,flist_eq hl];rfl)
  ·cases h
 ·rename_i v id cs hd
  split at h
  ·rename_i l hl
   cases h
   exact fin _ rfl (by rw [hd,flist_eq hl];rfl)
  ·cases h
 ·rename_i v id cs s hd
  split at h
  ·rename_i l q hl hq
   cases h
   exact fin _ rfl (by rw [hd,flist_eq hl];simp only [PS.app,fval_eq hq];rfl)
  ·cases h
 ·cases h
theorem PWops.stepA (h:stepF T ops base ok i o σ=some σ') (k:PWops P T ops base ok rest K σ'):PWops P T ops base ok ((i,o) :: rest) K σ:=by
 unfold stepF at h
 split at h
 ·rename_i hg
  split at h
  ·rename_i d hd
   cases h
   exact PWops.pass hg hd k
  ·cases h
 ·rename_i hg
  split at h
  ·cases h
  ·split at h
   ·cases h
   ·rename_i hb
    split at h
    ·rename_i d p hd hq
     cases h
     unfold quick at hq
     split at hq
     ·rename_i x hop
      split at hq
      ·rename_i p' hp
       split at hq
       ·cases hq
       ·rename_i hn
        cases hq
        exact PWops.mvC hop hg hd (fcell_eq hp) (by simpa using hn) hb k
      ·cases hq
     ·rename_i x ix hop
      split at hq
      ·rename_i vs hx
       split at hq
       ·rename_i c hc
        split at hq
        ·rename_i p' hp
         split at hq
         ·cases hq
         ·rename_i hn
          cases hq
          have hcp:=fcell_eq hp
          subst hcp
          exact PWops.valEq hg hd (p:=c) (by simp only [hop,presE,pvalA,pval,pev_only,hx,hc,Option.map_some,PV.bare_of _ (by simpa using hn:c.ownB=false)]) rfl hb k
        ·cases hq
       ·cases hq
      ·cases hq
     ·rename_i t x hop
      split at hq
      ·rename_i id off hx
       split at hq
       ·rename_i bs ti h1 h2 h3
        split at hq
        ·cases hq
        ·rename_i ha
         split at hq
         ·rename_i c hc
          split at hq
          ·rename_i p' hp
           split at hq
           ·cases hq
           ·rename_i hn
            cases hq
            exact PWops.ldV hop hg hd hx (by simp only [PS.only,h1,if_true];exact h2) hc h3 (by simpa using ha) hp (by simpa using hn) hb k
          ·cases hq
         ·cases hq
       ·cases hq
      ·cases hq
     ·cases hq
    ·exact PWops.applyE hg rfl hb h k
 ·cases h
theorem PWops.doneI {l:List (Nat×Oper)} (h:l.isEmpty=true) (k:K σ):PWops P T ops base ok l K σ:=by
 cases l with
 |nil=>exact k
 |cons x l=>cases h
def isQuo:Op→Bool
 | .binOp .quo _ _ _ _=>true
 |_=>false
def isRem:Op→Bool
 | .binOp .rem _ _ _ _=>true
 |_=>false
theorem PWops.remK {d:Nat} {x y:Int} (hk:isRem o.op=true) (hg:pguard ops σ o=some true) (hd:o.dst=some d) (hE:feff (presE T (headB ops o.dst) (base+i) (σ.only (ok i)) o.op)=some (.val (.int .i64 (x.tmod y)))) (h:0≤x∧0≤y) (hb:σ.freeB (base+i)=true) (k:PWops P T ops base ok rest K (σ.put d (.val (.int .i64 (x % y))))):PWops P T ops base ok ((i,o) :: rest) K σ:=
 PWops.int _ hg hd hE (Int.tmod_eq_emod_of_nonneg h.1) hb k
theorem PWops.quoK {d:Nat} {x y:Int} (hk:isQuo o.op=true) (hg:pguard ops σ o=some true) (hd:o.dst=some d) (hE:feff (presE T (headB ops o.dst) (base+i) (σ.only (ok i)) o.op)=some (.val (.int .i64 (IntKind.i64.wrap (x.tdiv y))))) (h:0≤x∧0 < y∧x≤9223372036854775807) (hb:σ.freeB (base+i)=true) (k:PWops P T ops base ok rest K (σ.put d (.val (.int .i64 (x / y))))):PWops P T ops base ok ((i,o) :: rest) K σ:=by
 have h1:x.tdiv y=x / y:=Int.tdiv_eq_ediv_of_nonneg h.1
 have h2:0≤x / y:=Int.ediv_nonneg h.1 (by omega)
 have h3:x / y≤x:=Int.ediv_le_self _ h.1
 exact PWops.int _ hg hd hE (by rw [h1,wrap64_id (by omega) (by omega)]) hb k
theorem PWops.idd {l:List (Nat×Oper)} (h:PWops P T ops base ok l K σ):PWops P T ops base ok l K σ:=h
theorem PW.idd {M:Nat} {c:Code} {Q:Exit→PS→Prop} (h:PW P M c Q σ):PW P M c Q σ:=h
theorem PWops.slcRL {α:Type} {d e by_ n k:Nat} {zl:Int} {kl:IntKind} {f:α→List PV} {L:List α} {zr:List PV} {own:Option TypeId} {x lo:Operand} {t:TypeId} {ti:TyI} (hg:pguard ops σ o=some true) (hd:o.dst=some d) (hop:o.op = .slice t x (some lo) none none) (hx:pev σ x = .sl n k (L.flatMap f) own) (hlo:pev σ lo = .val (.int kl zl)) (ht:T.at t=some ti) (hk:ti.kind = .slice e k by_ zr) (hb:σ.freeB (base+i)=true)
  (hf:∀x,(f x).length=k) (h1:0≤zl∧zl≤n∧n=L.length) (kn:PWops P T ops base ok rest K (σ.put d (.sl (L.drop zl.toNat).length k ((L.drop zl.toNat).flatMap f) none))):PWops P T ops base ok ((i,o) :: rest) K σ:=by
 refine PWops.slc zl.toNat n hg hd hop hx ht hk hb rfl ?_ ?_
 ·simp only [Option.map_some,hlo,pbound];rw [if_pos ⟨h1.1,by omega⟩]
 ·have:PV.sl (n - zl.toNat) k (((L.flatMap f).drop (zl.toNat * k)).take ((n - zl.toNat) * k)) none = .sl (L.drop zl.toNat).length k ((L.drop zl.toNat).flatMap f) none:=by
   refine sl_eq (by rw [List.length_drop];omega) ?_
   rw [flatMap_drop hf,List.take_of_length_le (by rw [flatMap_len hf,List.length_drop,h1.2.2];exact Nat.le_refl _)]
  rw [this];exact kn
theorem PWops.slcRH {α:Type} {d e by_ n k:Nat} {zh:Int} {kh:IntKind} {f:α→List PV} {L:List α} {zr:List PV} {own:Option TypeId} {x hi:Operand} {t:TypeId} {ti:TyI} (hg:pguard ops σ o=some true) (hd:o.dst=some d) (hop:o.op = .slice t x none (some hi) none) (hx:pev σ x = .sl n k (L.flatMap f) own) (hhi:pev σ hi = .val (.int kh zh)) (ht:T.at t=some ti) (hk:ti.kind = .slice e k by_ zr) (hb:σ.freeB (base+i)=true)
  (hf:∀x,(f x).length=k) (h1:0≤zh∧zh≤n∧n=L.length) (kn:PWops P T ops base ok rest K (σ.put d (.sl (L.take zh.toNat).length k ((L.take zh.toNat).flatMap f) none))):PWops P T ops base ok ((i,o) :: rest) K σ:=by
 refine PWops.slc 0 zh.toNat hg hd hop hx ht hk hb ?_ rfl ?_
 ·simp only [Option.map_some,hhi,pbound];rw [if_pos ⟨h1.1,h1.2.1⟩]
 ·have:PV.sl (zh.toNat - 0) k (((L.flatMap f).drop (0 * k)).take ((zh.toNat - 0) * k)) none = .sl (L.take zh.toNat).length k ((L.take zh.toNat).flatMap f) none:=by
   refine sl_eq (by rw [List.length_take];omega) ?_
   rw [Nat.zero_mul,List.drop_zero,Nat.sub_zero,flatMap_take hf]
  rw [this];exact kn
end
section
open Go.RowKit
theorem Weak.sl {n k:Nat} {own:Option TypeId} {ps qs:List PV} (h:WeakL ps qs):Weak (.sl n k ps own) (.sl n k qs none):=by
 refine ⟨fun Φ μ v hr=>?_,fun e=>by simp [PV.ownB] at e⟩
 cases hr with
 |sl0 _ _ a cap hc=>
  cases h
  exact .sl0 _ _ _ _ hc
 |sl _ _ _ _ b off cap us h1 h2 h3 hp hr=>
  have hl:=h.len
  refine .sl n k qs none b off cap us (by rw [←hl];exact h1) h2 h3 (fun j hj=>hp j (by rw [hl];exact hj)) (fun j c hj=>?_)
  obtain ⟨p,hpj,hw⟩:=h.get j c hj
  exact hw.1 _ _ _ (hr j p hpj)
theorem WeakL.refl:∀(ps:List PV),WeakL ps ps
 | []=>.nil
 |p :: ps=>.cons (.refl p) (WeakL.refl ps)
theorem PCalls.args {P:Program} {f:FuncId} {ps qs:List PV} {post:PV→Prop} (h:PCalls P f qs post) (hw:WeakL ps qs):PCalls P f ps post:=by
 refine ⟨h.1,fun Φ μ w vs himm hgl hr=>h.2 Φ μ w vs himm hgl ⟨by rw [hr.1,hw.len],fun j c u hc hu=>?_⟩⟩
 obtain ⟨p,hp,hw'⟩:=hw.get j c hc
 exact hw'.1 _ _ _ (hr.2 j p u hp hu)
def defOf (a:Nat):List Oper→Nat→Option (Nat×Op)
 | [],_=>none
 |o :: r,k=>match o.dst with
  |some d=>if Nat.beq d a then some (k,o.op) else defOf a r (k+1)
  |none=>defOf a r (k+1)
def tgtGo (env:Nat→Option Nat) (base:Nat) (ops:List Oper):Nat→Nat→Option Nat
 |0,_=>none
 |n+1,a=>match defOf a ops 0 with
  |some (k, .alloc _)=>some (base+k)
  |some (k, .box _ _)=>some (base+k)
  |some (_, .fieldAddr _ (.tmp b) _)=>tgtGo env base ops n b
  |some (_, .move (.tmp b))=>tgtGo env base ops n b
  |some (_, .nilCheck (.tmp b))=>tgtGo env base ops n b
  |some (_, .indexAddr _ (.tmp b) _)=>tgtGo env base ops n b
  |some (_, .slice _ (.tmp b) _ _ _)=>tgtGo env base ops n b
  |some _=>none
  |none=>env a
def tgtOf (env:Nat→Option Nat) (base:Nat) (ops:List Oper) (o:Oper):Option Nat:=match o.op with
 | .store _ (.tmp a) _=>tgtGo env base ops 6 a
 | .load _ (.tmp a)=>tgtGo env base ops 6 a
 |_=>none
def envOf (σ:PS) (a:Nat):Option Nat:=match σ.t a with
 | .ptr id _=>some id
 | .msl id _ _ _=>some id
 |_=>none
def okE (env:Nat→Option Nat) (ops:List Oper) (base i id:Nat):Bool:=okD (clos ops) base ops.length i id && (match (ops[i]?).bind (tgtOf env base ops) with|some k=>Nat.beq id k|none=>true)
def sepE (env:Nat→Option Nat) (base:Nat) (ops:List Oper) (iy ix:Nat) (y x:Oper):Bool:=
 (match tgtOf env base ops y with|some k => !okE env ops base ix k|none=>false) || (match tgtOf env base ops x with|some k => !okE env ops base iy k|none=>false)
theorem sepE_ok {env:Nat→Option Nat} {ops:List Oper} {base iy ix:Nat} {y x:Oper} (hy:ops[iy]? = some y) (hx:ops[ix]? = some x) (hs:sepE env base ops iy ix y x=true) (j:Nat) (h1:okE env ops base iy j=true) (h2:okE env ops base ix j=true):False:=by
 have res:∀(i:Nat) o k,ops[i]? = some o→okE env ops base i j=true→tgtOf env base ops o=some k→j=k:=by
  intro i o k ho h hr
  simp only [okE,ho,Option.bind_some,hr,Bool.and_eq_true] at h
  exact Nat.eq_of_beq_eq_true h.2
 simp only [sepE,Bool.or_eq_true] at hs
 rcases hs with hs|hs
 ·cases hr:tgtOf env base ops y with
  |none=>rw [hr] at hs;cases hs
  |some k=>
   rw [hr] at hs
   have e:=res iy y k hy h1 hr
   subst e
   simp [h2] at hs
 ·cases hr:tgtOf env base ops x with
  |none=>rw [hr] at hs;cases hs
  |some k=>
   rw [hr] at hs
   have e:=res ix x k hx h2 hr
   subst e
   simp [h1] at hs
def indE (env:Nat→Option Nat) (base:Nat) (ops:Array Oper) (iy ix:Nat) (y x:Oper):Bool:=
 (match y.dst,x.dst with|some a,some b=>a != b|_,_=>true) &&
 (match y.dst with|some a => !(tmpsOf x.op.operands.toList).contains a && !(guardT ops x).contains a|none=>true) &&
 (match x.dst with|some b => !(tmpsOf y.op.operands.toList).contains b && !(guardT ops y).contains b|none=>true) &&
 (takesB (headB ops y.dst) y).all (fun s => !(takesB (headB ops x.dst) x).contains s) &&
 (!(mapW (headB ops y.dst) y && mapU x) && !(mapW (headB ops x.dst) x && mapU y)) &&
 ((!(storeB y && usesBox x) && !(storeB x && usesBox y) && !(isStore (headB ops y.dst) y && isStore (headB ops x.dst) x)) || sepE env base ops.toList iy ix y x)
def drawE (env:Nat→Option Nat) (base:Nat) (ops:List Oper):Bool:=
 let cl:=clos ops
 (indexed 0 ops).all fun x=>x.2.after.toList.all (fun e => !Region.binds .any e || decide (e.on < x.1)) &&
  (indexed 0 ops).all fun y => !decide (y.1 < x.1) || (cl.getD x.1 []).contains y.1 || indE env base ops.toArray y.1 x.1 y.2 x.2
end
section
open Go.RowKit
variable {P:Program} {T:Tab} {σ:PS} {ops:Array Oper} {base:Nat} {ok:Nat→Nat→Bool}
theorem ind_partsE {env:Nat→Option Nat} {eb:Nat} {iy ix:Nat} {y x:Oper} (h:indE env eb ops iy ix y x=true):Ind ops (sepE env eb ops.toList iy ix y x=true) y x:=by
 simp only [indE,Bool.and_eq_true,Bool.not_eq_true',Bool.or_eq_true (_ && _) (sepE _ _ _ _ _ _ _)] at h
 obtain ⟨⟨⟨⟨⟨h1,h2⟩,h3⟩,h4⟩,h6⟩,h5⟩:=h
 refine ⟨?_,?_,?_,?_,?_,?_,?_,?_,?_⟩
 ·intro a b ea eb
  rw [ea,eb] at h1
  simpa using h1
 ·intro a ea
  rw [ea] at h2
  simpa using h2
 ·intro a ea
  rw [ea] at h3
  simpa using h3
 ·intro s hs
  have:=List.all_eq_true.1 h4 s hs
  simpa using this
 ·intro e1 e2
  rcases h5 with h5|h5
  ·simp only [e1,e2,Bool.and_eq_true,Bool.not_eq_true',Bool.and_true,Bool.true_and] at h5
   simp at h5
  ·exact h5
 ·intro e1 e2
  rcases h5 with h5|h5
  ·simp only [e1,e2,Bool.and_eq_true,Bool.not_eq_true',Bool.and_true,Bool.true_and] at h5
   simp at h5
  ·exact h5
 ·intro e1 e2
  rcases h5 with h5|h5
  ·simp only [e1,e2,Bool.and_eq_true,Bool.not_eq_true',Bool.and_true,Bool.true_and] at h5
   simp at h5
  ·exact h5
 ·intro e1 e2
  have:=h6.1
  rw [e1,e2] at this;cases this
 ·intro e1 e2
  have:=h6.2
  rw [e1,e2] at this;cases this
end
section
open Go.RowKit
theorem PWops.bubbleE {P:Program} {T:Tab} {ops:Array Oper} {base:Nat} {ok:Nat→Nat→Bool} {env:Nat→Option Nat} {eb:Nat} {ix:Nat} {x:Oper} {post:List (Nat×Oper)} {Q:PS→Prop} : ∀(pre:List (Nat×Oper)) (σ:PS),(∀y∈pre,(indE env eb ops y.1 ix y.2 x=true∧(sepE env eb ops.toList y.1 ix y.2 x=true→∀j,ok y.1 j=true→ok ix j=true→False))∧y.1≠ix∧ok ix (base+y.1)=false∧ok y.1 (base+ix)=false) →
  PWops P T ops base ok (pre ++ (ix,x) :: post) Q σ→PWops P T ops base ok ((ix,x) :: (pre ++ post)) Q σ
 | [],σ,_,h=>h
 |(iy,y) :: pre,σ,hall,h=>by
  obtain ⟨h1,h2,h3,h4⟩:=hall (iy,y) (by simp)
  have ih:=PWops.bubbleE (P:=P) (T:=T) (ops:=ops) (base:=base) (ok:=ok) (env:=env) (eb:=eb) (ix:=ix) (x:=x) (post:=post) (Q:=Q) pre
  have:PWop P T ops base ok iy y (PWop P T ops base ok ix x (PWops P T ops base ok (pre ++ post) Q)) σ:=
   PWop.mono (fun σ' h' => ih σ' (fun z hz=>hall z (by simp [hz])) h') h
  exact PWop.swap (ind_partsE h1.1) h1.2 h2 h3 h4 this
theorem draw_partsE {env:Nat→Option Nat} {eb:Nat} {ops:List Oper} (h:drawE env eb ops=true):(∀(i:Nat) o,ops[i]? = some o→∀e∈o.after.toList,Region.binds .any e=true→e.on < i) ∧
  (∀(i j:Nat) x y,ops[i]? = some x→ops[j]? = some y→j < i→j∈(clos ops).getD i []∨indE env eb ops.toArray j i y x=true):=by
 have hm:∀(i:Nat) o,ops[i]? = some o→(i,o)∈indexed 0 ops:=by
  have:∀(l:List Oper) (k i:Nat) o,l[i]? = some o→(k+i,o)∈indexed k l:=by
   intro l
   induction l with
   |nil=>intro k i o h;simp at h
   |cons p l ih=>
    intro k i o h
    cases i with
    |zero=>simp at h;subst h;simp [indexed]
    |succ i=>
     simp at h
     have:=ih (k+1) i o h
     simp only [indexed,List.mem_cons]
     right
     rw [show k+(i+1)=k+1+i by omega];exact this
  intro i o h
  have:=this ops 0 i o h
  rwa [Nat.zero_add] at this
 simp only [drawE] at h
 have h':=List.all_eq_true.1 h
 refine ⟨fun i o ho e he hb=>?_,fun i j x y hx hy hji=>?_⟩
 ·have:=h' _ (hm i o ho)
  simp only [Bool.and_eq_true] at this
  have:=List.all_eq_true.1 this.1 e he
  simpa [hb] using this
 ·have:=h' _ (hm i x hx)
  simp only [Bool.and_eq_true] at this
  have:=List.all_eq_true.1 this.2 _ (hm j y hy)
  simp only [hji,decide_true,Bool.not_true,Bool.false_or,Bool.or_eq_true,List.contains_iff_mem] at this
  exact this
end
section
open Go.RowKit
variable {Φ0:Ent} {W:World} {M:Nat} {P:Program} {T:Tab} {ops:List Oper} {base:Nat} {env:Nat→Option Nat}
theorem any_soundE (hT:T=tabOf P) (hbase:base+ops.toArray.size≤1000000) (hall:∀(j:Nat) o,ops.toArray[j]? = some o→dstB M o=true) (hdraw:drawE env base ops=true) {Q:PS→Prop} {Q' : Exit→Act→World→Prop} (hQ:∀σ a w,Q σ→Rel Φ0 W M σ a w→Q' .normal a w) {r:Option Nat} :
  ∀(fuel:Nat) (listed:Array Bool) (σ:PS) (a:Act) (w:World),unlisted listed≤fuel→listed.size=ops.length→(∀(i:Nat) o,ops[i]? = some o→listed.getD i false=true→∀j,depO o j=true→listed.getD j false=true) →
   PWops P T ops.toArray base (okE env ops base) ((indexed 0 ops).filter fun x => !listed.getD x.1 false) Q σ→Rel Φ0 W M σ a w→wpAnyIn (FW r) 0 P .any ops.toArray Q' fuel listed a w:=by
 obtain ⟨hE,hI⟩:=draw_partsE hdraw
 have hsz:∀listed:Array Bool,listed.size=ops.length→listed.size=ops.toArray.size:=fun l h=>by simpa using h
 have fin:∀(listed:Array Bool) (σ:PS) (a:Act) (w:World),listed.size=ops.length→(∀i,i < ops.length→listed.getD i false=true) →
   PWops P T ops.toArray base (okE env ops base) ((indexed 0 ops).filter fun x => !listed.getD x.1 false) Q σ→Rel Φ0 W M σ a w→Q' .normal a w:=by
  intro listed σ a w hs hl h hr
  have:((indexed 0 ops).filter fun x => !listed.getD x.1 false) = []:=by
   rw [List.filter_eq_nil_iff]
   intro x hx
   obtain ⟨-,h2⟩:=indexed_mem 0 ops x hx
   have:x.1 < ops.length:=by have:=(List.getElem?_eq_some_iff.1 h2).1;omega
   simp [hl x.1 this]
  rw [this] at h
  exact hQ σ a w h hr
 have alls:∀listed:Array Bool,listed.size=ops.length→Region.ready .any ops.toArray listed = []→∀i,i < ops.length→listed.getD i false=true:=by
  intro listed hs hr i
  induction i using Nat.strongRecOn with
  |_ i ih=>
   intro hi
   have ho:ops.toArray[i]? = some ops[i]:=by simp [hi]
   cases hl:listed.getD i false with
   |true=>rfl
   |false=>
    have:i∈Region.ready .any ops.toArray listed:=(mem_ready (hsz listed hs)).2 ⟨ops[i],ho,hl,fun j hj=>by
     obtain ⟨e,he,hb,rfl⟩:=depO_iff.1 hj
     have:=hE i ops[i] (by simp [hi]) e he hb
     exact ih e.on this (by omega)⟩
    rw [hr] at this;cases this
 intro fuel
 induction fuel with
 |zero=>
  intro listed σ a w hu hs hcl h hr
  have hl:=unlisted_zero (Nat.le_zero.1 hu)
  rw [hs] at hl
  refine ⟨?_,fin listed σ a w hs hl h hr⟩
  apply List.eq_nil_iff_forall_not_mem.2
  intro i hi
  obtain ⟨o,ho,h1,_⟩:=(mem_ready (hsz listed hs)).1 hi
  rw [hl i (by have:=(Array.getElem?_eq_some_iff.1 ho).1;simpa using this)] at h1
  cases h1
 |succ fuel ih=>
  intro listed σ a w hu hs hcl h hr
  refine ⟨fun hrd=>fin listed σ a w hs (alls listed hs hrd) h hr,fun i hi=>?_⟩
  obtain ⟨o,ho,h1,h2⟩:=(mem_ready (hsz listed hs)).1 hi
  have ho' : ops[i]? = some o:=by simpa using ho
  have hil:i < ops.length:=(List.getElem?_eq_some_iff.1 ho').1
  have hmem:(i,o)∈(indexed 0 ops).filter fun x => !listed.getD x.1 false:=by
   rw [List.mem_filter]
   refine ⟨?_,by simp [h1]⟩
   have:∀(l:List Oper) (k i:Nat) o,l[i]? = some o→(k+i,o)∈indexed k l:=by
    intro l
    induction l with
    |nil=>intro k i o h;simp at h
    |cons p l ih=>
     intro k i o h
     cases i with
     |zero=>simp at h;subst h;simp [indexed]
     |succ i=>
      simp at h
      have:=ih (k+1) i o h
      simp only [indexed,List.mem_cons]
      right
      rw [show k+(i+1)=k+1+i by omega];exact this
   have:=this ops 0 i o ho'
   rwa [Nat.zero_add] at this
  obtain ⟨pre,post,hL⟩:=List.append_of_mem hmem
  have hsort:((indexed 0 ops).filter fun x => !listed.getD x.1 false).Pairwise (fun a b=>a.1 < b.1):=(indexed_sorted 0 ops).filter _
  rw [hL] at h hsort
  rw [List.pairwise_append] at hsort
  obtain ⟨-,hs2,hs3⟩:=hsort
  rw [List.pairwise_cons] at hs2
  have hpre:∀y∈pre,y.1 < i:=fun y hy=>hs3 y hy (i,o) (by simp)
  have hpost:∀y∈post,i < y.1:=fun y hy=>hs2.1 y hy
  have hprem:∀y∈pre,ops[y.1]? = some y.2∧listed.getD y.1 false=false:=by
   intro y hy
   have:y∈(indexed 0 ops).filter fun x => !listed.getD x.1 false:=by rw [hL];simp [hy]
   rw [List.mem_filter] at this
   obtain ⟨-,q⟩:=indexed_mem 0 ops y this.1
   exact ⟨by simpa using q,by simpa using this.2⟩
  have hb:=PWops.bubbleE (P:=P) (T:=T) (base:=base) (ok:=okE env ops base) (env:=env) (eb:=base) (ix:=i) (x:=o) (post:=post) (Q:=Q) pre σ (by
   intro y hy
   obtain ⟨q1,q2⟩:=hprem y hy
   have hlt:=hpre y hy
   have hnc:y.1∉(clos ops).getD i []:=fun hc=>by
    rw [clos_listed hE hcl i o ho' h2 y.1 hc] at q2;cases q2
   have hyl:y.1 < ops.length:=(List.getElem?_eq_some_iff.1 q1).1
   refine ⟨⟨by simpa using (hI i y.1 o y.2 ho' q1 hlt).resolve_left hnc,fun hs j hj1 hj2=>sepE_ok (ops:=ops) q1 ho' (by simpa using hs) j hj1 hj2⟩,by omega,?_,?_⟩
   ·rw [okE,Bool.and_eq_false_iff];left
    simp only [okD,Bool.or_eq_false_iff,decide_eq_false_iff_not]
    refine ⟨⟨by omega,by omega⟩,?_⟩
    rw [Nat.add_sub_cancel_left]
    simpa using hnc
   ·rw [okE,Bool.and_eq_false_iff];left
    simp only [okD,Bool.or_eq_false_iff,decide_eq_false_iff_not]
    refine ⟨⟨by omega,by omega⟩,?_⟩
    rw [Nat.add_sub_cancel_left]
    have:i∉(clos ops).getD y.1 []:=fun hc=>by have:=clos_lt hE y.1 y.2 q1 i hc;omega
    simpa using this) h
  have hset:listed.getD i false=false:=h1
  have hlt:i < listed.size:=by rw [hs];exact hil
  have hrem:pre ++ post=(indexed 0 ops).filter fun x => !(listed.setIfInBounds i true).getD x.1 false:=by
   have e1:((indexed 0 ops).filter fun x => !(listed.setIfInBounds i true).getD x.1 false)=((indexed 0 ops).filter fun x => !listed.getD x.1 false).filter (fun x => !decide (x.1=i)):=by
    rw [List.filter_filter]
    congr 1
    funext x
    rw [getD_set _ _ _ hlt]
    cases listed.getD x.1 false<;>simp
   rw [e1,hL,List.filter_append,List.filter_cons]
   have e2:pre.filter (fun x => !decide (x.1=i))=pre:=List.filter_eq_self.2 (fun y hy=>by have:=hpre y hy;simp;omega)
   have e3:post.filter (fun x => !decide (x.1=i))=post:=List.filter_eq_self.2 (fun y hy=>by have:=hpost y hy;simp;omega)
   rw [e2,e3]
   simp
  have hcl' : ∀(k:Nat) p,ops[k]? = some p→(listed.setIfInBounds i true).getD k false=true→∀j,depO p j=true→(listed.setIfInBounds i true).getD j false=true:=by
   intro k p hp hk j hj
   rw [getD_set _ _ _ hlt] at hk ⊢
   simp only [Bool.or_eq_true,decide_eq_true_eq] at hk ⊢
   rcases hk with rfl|hk
   ·rw [ho'] at hp;cases hp;exact .inr (h2 j hj)
   ·exact .inr (hcl k p hp hk j hj)
  have hstep:=op_sound (Φ0:=Φ0) (W:=W) (M:=M) hT hall (base:=base) hbase ho (K':=wpAnyIn (FW r) 0 P .any ops.toArray Q' fuel (listed.setIfInBounds i true)) (Q':=Q') (fun σ' a' w' hk hr' => ih (listed.setIfInBounds i true) σ' a' w' (by have:=unlisted_set listed i hlt hset;omega) (by simpa using hs) hcl' (by rw [←hrem];exact hk) hr') hb hr
  unfold wpOpIn
  rw [ho]
  simp only
  split
  ·rename_i hw;rw [if_pos hw] at hstep;exact wpIn_of_wp (dstB_defer (hall i o ho)) hstep
  ·rename_i hw;rw [if_neg hw] at hstep;exact ⟨fun _ _=>trivial,hstep⟩
theorem PW.drawE {Q:Exit→PS→Prop} {σ:PS} (hT:T=tabOf P) (hm:P.follows .mixedOrders=true) {id:Nat} (hall2:(ops.all (dstB M) && Nat.ble (1000 * id+ops.length) 1000000)=true) (hd:drawE (envOf σ) (1000 * id) ops=true)
  (h:PWops P T ops.toArray (1000 * id) (okE (envOf σ) ops (1000 * id)) (indexed 0 ops) (Q .normal) σ):PW P M (.region id ops.toArray true) Q σ:=by
 intro Φ0 W a w hr
 have hall2':=hall2
 simp only [Bool.and_eq_true] at hall2'
 obtain ⟨hall,hb0⟩:=hall2'
 have hbase:=Nat.le_of_ble_eq_true hb0
 refine wpIn_region_any hm ?_
 obtain ⟨Φ,μ,ω,hg⟩:=hr
 refine any_soundE (Φ0:=Φ0) (W:=W) (M:=M) (base:=1000 * id) (env:=envOf σ) (Q:=Q .normal) hT (by simpa using hbase) (by
  intro j o hj
  exact List.all_eq_true.1 hall o (mem_of_get (by simpa using hj))) hd (fun σ a w hq hrel=>⟨_,Φ0,W,hq,Later.refl _ _,hrel⟩) _ _ σ a _ ?_ (by simp) ?_ ?_ ⟨Φ,μ,ω,hg.drew⟩
 ·unfold unlisted
  exact Nat.le_trans List.countP_le_length (by simp)
 ·intro i o ho hl
  simp [Array.getD_eq_getD_getElem?,Array.getElem?_replicate] at hl
  split at hl<;>simp_all
 ·have:((indexed 0 ops).filter fun x => !(Array.replicate ops.toArray.size false).getD x.1 false)=indexed 0 ops:=by
   rw [List.filter_eq_self]
   intro x _
   simp [Array.getD_eq_getD_getElem?,Array.getElem?_replicate]
   split<;>rfl
  rw [this]
  exact h
end
section
open Go.RowKit
variable {P:Program} {T:Tab} {σ:PS} {o:Oper} {i base:Nat} {ops:Array Oper} {ok:Nat→Nat→Bool} {rest:List (Nat×Oper)} {K:PS→Prop}
theorem pres_pval {d:Nat} {p:PV} (hg:pguard ops σ o=some true) (hd:o.dst=some d) (hE:presE T (headB ops o.dst) (base+i) (σ.only (ok i)) o.op=some ⟨p,[],none,[]⟩) (hb:σ.freeB (base+i)=true) (k:PWops P T ops base ok rest K (σ.put d p)):PWops P T ops base ok ((i,o) :: rest) K σ:=
 PWops.valEq hg hd hE rfl hb k
theorem PWops.idxM {d n k m e by_ o' : Nat} {z:Int} {zr:List PV} {kk:IntKind} {x ix:Operand} {t:TypeId} {ti:TyI} (hg:pguard ops σ o=some true) (hd:o.dst=some d) (hop:o.op = .indexAddr t x ix) (hx:pev σ x = .msl m o' n k) (hi:pev σ ix = .val (.int kk z)) (ht:T.at t=some ti) (hk:ti.kind = .slice e k by_ zr) (hb:σ.freeB (base+i)=true) (h0:0≤z∧z < n)
  (kn:PWops P T ops base ok rest K (σ.put d (.ptr m (o' + z.toNat * k)))):PWops P T ops base ok ((i,o) :: rest) K σ:=by
 refine pres_pval hg hd ?_ hb kn
 have h1:k=k∧(0:Int)≤z∧z < (n:Int):=⟨rfl,h0.1,h0.2⟩
 simp [hop,presE,pvalA,pval,pev_only,hx,hi,ht,hk,pindexAt,h1]
theorem PWops.idxP {d n k m o' : Nat} {e:TypeId} {ag:Bool} {z:Int} {kk:IntKind} {x ix:Operand} {t:TypeId} {ti:TyI} (hg:pguard ops σ o=some true) (hd:o.dst=some d) (hop:o.op = .indexAddr t x ix) (hx:pev σ x = .ptr m o') (hi:pev σ ix = .val (.int kk z)) (ht:T.at t=some ti) (hk:ti.kind = .arr n e k ag) (hb:σ.freeB (base+i)=true) (h0:0≤z∧z < n)
  (kn:PWops P T ops base ok rest K (σ.put d (.ptr m (o' + z.toNat * k)))):PWops P T ops base ok ((i,o) :: rest) K σ:=by
 refine pres_pval hg hd ?_ hb kn
 have h1:(0:Int)≤z∧z < (n:Int):=h0
 simp [hop,presE,pvalA,pval,pev_only,hx,hi,ht,hk,pindexAt,h1]
theorem ploadO_ptr {hd:Bool} {b:Nat→Option (List PV)} {t:TypeId} {id off:Nat} {bs:List PV} {ti:TyI} (hb:b id=some bs) (ht:T.at t=some ti) (h:ti.agg=true∨∃c,bs[off]? = some c∧c.ownB=false):ploadO T hd b t (.ptr id off)=none:=by
 simp only [ploadO]
 split
 ·rw [hb]
  simp only
  rcases h with h|⟨c,hc,h⟩
  ·split
   ·rw [ht];simp [h]
   ·rfl
  ·rw [hc]
   cases c with
   |sl n k cs own=>cases own with
    |none=>rfl
    |some E=>simp [PV.ownB] at h
   |_=>rfl
 ·rfl
theorem PWops.ldBA {d off m id:Nat} {bs row:List PV} {x:Operand} {t:TypeId} {kd:TD} {zr:List PV} {es:List SK} (hg:pguard ops σ o=some true) (hd:o.dst=some d) (hop:o.op = .load t x) (hx:pev σ x = .ptr id off) (ht:T.at t=some ⟨m,true,kd,zr,es⟩) (hb:σ.freeB (base+i)=true) (hbs:(σ.only (ok i)).b id=some bs) (hl:off+m≤bs.length) (hr:((bs.drop off).take m).map PV.bare=row)
  (kn:PWops P T ops base ok rest K (σ.put d (.agg row))):PWops P T ops base ok ((i,o) :: rest) K σ:=by
 refine PWops.valEq hg hd (p:=.agg (((bs.drop off).take m).map PV.bare)) ?_ (by rw [hr]) hb kn
 have h1:=ploadO_ptr (T:=T) (hd:=headB ops o.dst) (off:=off) hbs ht (.inl rfl)
 simp only [hop,presE,pev_only,hx,h1,pvalA,pval,ht,ploadAt,hbs,asVal,if_true,hl,Option.map_some]
theorem PWops.ldB {d off id:Nat} {bs:List PV} {c:PV} {x:Operand} {t:TypeId} {ti:TyI} (hg:pguard ops σ o=some true) (hd:o.dst=some d) (hop:o.op = .load t x) (hx:pev σ x = .ptr id off) (ht:T.at t=some ti) (ha:ti.agg=false) (hb:σ.freeB (base+i)=true) (hbs:(σ.only (ok i)).b id=some bs) (hc:bs[off]? = some c) (hn:c.ownB=false)
  (kn:PWops P T ops base ok rest K (σ.put d c)):PWops P T ops base ok ((i,o) :: rest) K σ:=by
 refine PWops.valEq hg hd (p:=c) ?_ rfl hb kn
 have h1:=ploadO_ptr (T:=T) (hd:=headB ops o.dst) (off:=off) hbs ht (.inr ⟨c,hc,hn⟩)
 simp only [hop,presE,pev_only,hx,h1,pvalA,pval,ht,ploadAt,hbs,asVal,ha,hc,Bool.false_eq_true,if_false,Option.map_some,PV.bare_of _ hn]
theorem PWops.stB {off id:Nat} {bs new out:List PV} {x y:Operand} {t:TypeId} {ti:TyI} (hg:pguard ops σ o=some true) (hd:o.dst=none) (hop:o.op = .store t x y) (hx:pev σ x = .ptr id off) (hn:(ownPV σ y).ownB=false) (hp:pcells (pev σ y)=some new) (ht:T.at t=some ti) (hb:σ.freeB (base+i)=true) (hbs:(σ.only (ok i)).b id=some bs) (hl:new.length=ti.size∧off+new.length≤bs.length) (hout:splice bs off new=out)
  (kn:PWops P T ops base ok rest K (σ.setb id out)):PWops P T ops base ok ((i,o) :: rest) K σ:=by
 refine PWops.step hg (E:=⟨.tup [],[(id,out)],none,[]⟩) ?_ hb ?_
 ·have hn' : (ownPV (σ.only (ok i)) y).ownB=false:=by cases y<;>exact hn
  have hl1:=hl.1
  have hl2:=hl.2
  have hsp:=splF_eq _ _ _ hl2
  rw [hout] at hsp
  simp only [hop,presE,pev_only,hx,hn',hbs,ht,hp,Bool.false_eq_true,if_false]
  rw [if_pos ⟨hl1,hl2⟩,hsp]
 ·rw [hd];exact kn
theorem PWops.ldAll {d m id:Nat} {cs:List PV} {x:Operand} {t:TypeId} {kd:TD} {zr:List PV} {es:List SK} (hg:pguard ops σ o=some true) (hd:o.dst=some d) (hop:o.op = .load t x) (hx:pev σ x = .ptr id 0) (ht:T.at t=some ⟨m,true,kd,zr,es⟩) (hb:σ.freeB (base+i)=true) (hbs:(σ.only (ok i)).b id=some cs) (hl:cs.length=m) (hr:cs.map PV.bare=cs)
  (kn:PWops P T ops base ok rest K (σ.put d (.agg cs))):PWops P T ops base ok ((i,o) :: rest) K σ:=
 PWops.ldBA hg hd hop hx ht hb hbs (by omega) (by rw [List.drop_zero,List.take_of_length_le (by omega)];exact hr) kn
theorem PWops.stAll {id:Nat} {bs new:List PV} {x y:Operand} {t:TypeId} {ti:TyI} (hg:pguard ops σ o=some true) (hd:o.dst=none) (hop:o.op = .store t x y) (hx:pev σ x = .ptr id 0) (hn:(ownPV σ y).ownB=false) (hv:pev σ y = .agg new) (ht:T.at t=some ti) (hb:σ.freeB (base+i)=true) (hbs:(σ.only (ok i)).b id=some bs) (hl:new.length=ti.size) (hl2:bs.length=ti.size) (ho:new.all PV.one=true) (hr:new.map PV.bare=new)
  (kn:PWops P T ops base ok rest K (σ.setb id new)):PWops P T ops base ok ((i,o) :: rest) K σ:=
 PWops.stB hg hd hop hx hn (new:=new) (by rw [hv];simp only [pcells,ho,if_true,hr]) ht hb hbs ⟨hl,by omega⟩ (by
  have:splice bs 0 new=new:=by unfold splice;simp;omega
  exact this) kn
theorem PWops.boxA {d:Nat} {cs:List PV} {x:Operand} {t:TypeId} (hg:pguard ops σ o=some true) (hd:o.dst=some d) (hop:o.op = .box t x) (hx:pev σ x = .agg cs) (hb:σ.freeB (base+i)=true) (ho:cs.all PV.one=true) (hr:cs.map PV.bare=cs)
  (kn:PWops P T ops base ok rest K ((σ.setb (base+i) cs).put d (.ptr (base+i) 0))):PWops P T ops base ok ((i,o) :: rest) K σ:=by
 refine PWops.step hg (E:=⟨.ptr (base+i) 0,[(base+i,cs)],none,[]⟩) ?_ hb (by rw [hd];exact kn)
 have h1:(σ.only (ok i)).b (base+i)=none∧(σ.only (ok i)).m (base+i)=none:=by
  obtain ⟨q1,q2⟩:=PS.freeB_spec hb
  simp only [PS.only,q1,q2]
  constructor<;>split<;>rfl
 simp only [hop,presE,pev_only,hx,pcells,ho,if_true,hr,h1.1,h1.2]
theorem PWops.ldRB {α:Type} [Inhabited α] {d j k:Nat} {f:α→List PV} {l:List α} {x:Operand} {t:TypeId} {kd:TD} {zr:List PV} {es:List SK} (hg:pguard ops σ o=some true) (hd:o.dst=some d) (hop:o.op = .load t x) (hx:pev σ x = .ep (l.flatMap f) (j * k)) (ht:T.at t=some ⟨k,true,kd,zr,es⟩) (hb:σ.freeB (base+i)=true) (hk:∀x,(f x).length=k) (hl:j < l.length) (hr:∀x,(f x).map PV.bare=f x)
  (kn:PWops P T ops base ok rest K (σ.put d (.agg (f (l.getD j default))))):PWops P T ops base ok ((i,o) :: rest) K σ:=by
 refine PWops.ldA hg hd hop hx ht hb ?_ ?_ kn
 ·rw [flatMap_len hk]
  have:=Nat.mul_le_mul_right k (show j+1≤l.length from hl)
  rw [Nat.succ_mul] at this;exact this
 ·rw [flatMap_row hk (getD_get default hl)];exact hr _
theorem PWops.ldBR {α:Type} [Inhabited α] {d j k id:Nat} {f:α→List PV} {l:List α} {row:List PV} {x:Operand} {t:TypeId} {kd:TD} {zr:List PV} {es:List SK} (hg:pguard ops σ o=some true) (hd:o.dst=some d) (hop:o.op = .load t x) (hx:pev σ x = .ptr id (0+j * k)) (ht:T.at t=some ⟨k,true,kd,zr,es⟩) (hb:σ.freeB (base+i)=true) (hbs:(σ.only (ok i)).b id=some (l.flatMap f)) (hk:∀x,(f x).length=k) (hl:j < l.length) (hr:(f (l.getD j default)).map PV.bare=row)
  (kn:PWops P T ops base ok rest K (σ.put d (.agg row))):PWops P T ops base ok ((i,o) :: rest) K σ:=by
 refine PWops.ldBA hg hd hop hx ht hb hbs ?_ ?_ kn
 ·rw [flatMap_len hk]
  have:=Nat.mul_le_mul_right k (show j+1≤l.length from hl)
  rw [Nat.succ_mul] at this;omega
 ·rw [Nat.zero_add,flatMap_row hk (getD_get default hl)];exact hr
theorem PWops.ldBC {α:Type} [Inhabited α] {d j k r id:Nat} {f:α→List PV} {l:List α} {c:PV} {x:Operand} {t:TypeId} {ti:TyI} (hg:pguard ops σ o=some true) (hd:o.dst=some d) (hop:o.op = .load t x) (hx:pev σ x = .ptr id (0+j * k+r)) (ht:T.at t=some ti) (ha:ti.agg=false) (hb:σ.freeB (base+i)=true) (hbs:(σ.only (ok i)).b id=some (l.flatMap f)) (hk:∀x,(f x).length=k) (hl:j < l.length) (hc:(f (l.getD j default))[r]? = some c) (hn:c.ownB=false)
  (kn:PWops P T ops base ok rest K (σ.put d c)):PWops P T ops base ok ((i,o) :: rest) K σ:=
 PWops.ldB hg hd hop hx ht ha hb hbs (by rw [Nat.zero_add];exact flatMap_get hk (getD_get default hl) hc) hn kn
theorem PWops.lkp {d mid clock kt et:Nat} {x k:Operand} {t:TypeId} {okk:Bool} {es:List (Nat×PV×PV)} {kv:Value} {ti ki ei:TyI} {c:PV} {b:Bool} (hg:pguard ops σ o=some true) (hd:o.dst=some d) (hop:o.op = .lookup t x k okk) (hx:pev σ x = .mref mid) (hm:(σ.only (ok i)).m mid=some (.map es clock)) (hkv:pev σ k = .val kv) (ht:T.at t=some ti) (hk:ti.kind = .map kt et) (hki:T.at kt=some ki) (hei:T.at et=some ei) (hb:σ.freeB (base+i)=true)
  (hget:mget ki ei es kv=some (c,b)) (kn:PWops P T ops base ok rest K (σ.put d (if okk then .tup [c, .val (.bool b)] else c))):PWops P T ops base ok ((i,o) :: rest) K σ:=by
 refine PWops.valEq hg hd (p:=if okk then .tup [c, .val (.bool b)] else c) ?_ rfl hb kn
 simp only [hop,presE,pvalA,pval,pvalX,ht,hk,plookup,pev_only,hx,hkv,hki,hei,pents,hm,hget,Option.map_some]
theorem PWops.mput {mid clock kt et:Nat} {x k v:Operand} {t:TypeId} {es:List (Nat×PV×PV)} {kv:Value} {ti ki:TyI} {X:PMap} {p:PV} (hg:pguard ops σ o=some true) (hd:o.dst=none) (hop:o.op = .mapUpdate t x k v) (hx:pev σ x = .mref mid) (hm:(σ.only (ok i)).m mid=some (.map es clock)) (hkv:pev σ k = .val kv) (ht:T.at t=some ti) (hk:ti.kind = .map kt et) (hki:T.at kt=some ki) (hb:σ.freeB (base+i)=true)
  (hn:(ownPV σ v).ownB=false) (hv:pev σ v=p) (hput:Go.Proofs.YtoamkpgaaanafaaGreat.mput ki es clock kv p=some X) (kn:PWops P T ops base ok rest K (σ.setm mid X)):PWops P T ops base ok ((i,o) :: rest) K σ:=by
 refine PWops.stepM hg (E:=⟨.tup [],[],none,[(mid,X)]⟩) ?_ hb ?_
 ·have hn' : (ownPV (σ.only (ok i)) v).ownB=false:=by cases v<;>exact hn
  simp only [hop,presM,pput,ht,hk,hki,pev_only,hx,mapOf,hm,hkv,ownArg,hn',Bool.false_eq_true,if_false,hv,hput,Option.map_some]
 ·rw [hd];exact kn
theorem PWops.eqA {d:Nat} {op:BinOp} {xs ys:List PV} {x y:Operand} {t yt:TypeId} {ti:TyI} {b:Bool} (hg:pguard ops σ o=some true) (hd:o.dst=some d) (hop:o.op = .binOp op t x y yt) (hx:pev σ x = .agg xs) (hy:pev σ y = .agg ys) (ht:T.at t=some ti) (hb:σ.freeB (base+i)=true) (hne:ti.eqs.isEmpty=false) (h:peqs ti.eqs xs ys=some b) (ho:op = .eql∨op = .neq) (kn:PWops P T ops base ok rest K (σ.put d (.val (.bool (if op = .eql then b else !b))))):PWops P T ops base ok ((i,o) :: rest) K σ:=by
 refine PWops.valEq hg hd (p:=.val (.bool (if op = .eql then b else !b))) ?_ rfl hb kn
 have:pbinA op ti.eqs xs ys=some (.bool (if op = .eql then b else !b)):=by
  unfold pbinA
  cases he:ti.eqs with
  |nil=>rw [he] at hne;cases hne
  |cons k ks=>
   rw [he] at h
   rcases ho with rfl|rfl
   ·simp [h]
   ·simp [h]
 simp only [hop,presE,pvalA,pval,pev_only,hx,hy,ht,this,Option.map_some]
theorem peqs_ints {k:IntKind} : ∀(xs ys:List Int),xs.length=ys.length→peqs (List.replicate xs.length .int) (xs.map fun x=>.val (.int k x)) (ys.map fun x=>.val (.int k x))=some (xs == ys)
 | [],[],_=>rfl
 |x :: xs,y :: ys,h=>by
  have ih:=peqs_ints (k:=k) xs ys (by simpa using h)
  simp only [List.length_cons,List.replicate_succ,List.map_cons,peqs,veq,if_true,ih]
  rfl
 | [],y :: ys,h=>by simp at h
 |x :: xs,[],h=>by simp at h
theorem PWops.shlK {d:Nat} {k k' : IntKind} {x y:Int} {X Y:Operand} {t yt:TypeId} (hg:pguard ops σ o=some true) (hd:o.dst=some d) (hop:o.op = .binOp .shl t X Y yt) (hx:pev σ X = .val (.int k x)) (hy:pev σ Y = .val (.int k' y)) (hb:σ.freeB (base+i)=true) (h0:0≤y) (kn:PWops P T ops base ok rest K (σ.put d (.val (.int k (k.wrap (x * 2 ^ (min y.toNat k.bits))))))):PWops P T ops base ok ((i,o) :: rest) K σ:=by
 refine PWops.valEq hg hd (p:=.val (.int k (k.wrap (x * 2 ^ (min y.toNat k.bits))))) ?_ rfl hb kn
 simp only [hop,presE,pvalA,pval,pev_only,hx,hy,pbin,h0,if_true]
 rfl
theorem PWops.shrK {d:Nat} {k k' : IntKind} {x y:Int} {X Y:Operand} {t yt:TypeId} (hg:pguard ops σ o=some true) (hd:o.dst=some d) (hop:o.op = .binOp .shr t X Y yt) (hx:pev σ X = .val (.int k x)) (hy:pev σ Y = .val (.int k' y)) (hb:σ.freeB (base+i)=true) (h0:0≤y) (kn:PWops P T ops base ok rest K (σ.put d (.val (.int k (x.fdiv (2 ^ (min y.toNat k.bits))))))):PWops P T ops base ok ((i,o) :: rest) K σ:=by
 refine PWops.valEq hg hd (p:=.val (.int k (x.fdiv (2 ^ (min y.toNat k.bits))))) ?_ rfl hb kn
 simp only [hop,presE,pvalA,pval,pev_only,hx,hy,pbin,h0,if_true]
 rfl
theorem PWops.litA {d k e by_:Nat} {cs zr:List PV} {x:Operand} {t:TypeId} {ti:TyI} (hg:pguard ops σ o=some true) (hd:o.dst=some d) (hop:o.op = .buildSlice t 1 #[(0,x)]) (hx:pev σ x = .agg cs) (ht:T.at t=some ti) (hk:ti.kind = .slice e k by_ zr) (hb:σ.freeB (base+i)=true) (hl:cs.length=k) (hz:zr.length=k) (hk2:Nat.ble k 16777216=true) (he:Nat.blt e 1000000=true) (ho:cs.all PV.one=true) (hr:cs.map PV.bare=cs) (kn:PWops P T ops base ok rest K (σ.put d (.sl 1 k cs (some e)))):PWops P T ops base ok ((i,o) :: rest) K σ:=by
 refine PWops.step hg (E:=⟨.sl 1 k cs (some e),[],none,[]⟩) ?_ hb (by rw [hd];exact kn)
 have e1:(List.replicate 1 zr).flatten=zr:=by simp
 have hle:1 * k≤16777216:=by have:=Nat.le_of_ble_eq_true hk2;omega
 have he' : e < 1000000:=by simpa [Nat.blt_eq] using he
 have hs:splF zr 0 cs=cs:=by
  rw [splF_eq _ _ _ (by omega)]
  unfold splice;simp;omega
 simp only [hop,presE,ht,hk,hle,he',and_self,if_true,e1,List.map_cons,List.map_nil,pev_only,hx,pfill,pcells,ho,hr,hl,hz,Nat.zero_mul,Nat.zero_add,Nat.le_refl,and_self,hs,Option.map_some]
end
section
open Go.RowKit
theorem PW.condTe {P:Program} {M:Nat} {Q:Exit→PS→Prop} {σ:PS} {c:Operand} {x y:Code} {b:Bool} (hc:pev σ c = .val (.bool b)) (hb:b=true) (h:PW P M x Q σ):PW P M (.cond c x y) Q σ:=PW.condT (by rw [hc,hb]) h
theorem PW.condFe {P:Program} {M:Nat} {Q:Exit→PS→Prop} {σ:PS} {c:Operand} {x y:Code} {b:Bool} (hc:pev σ c = .val (.bool b)) (hb:b=false) (h:PW P M y Q σ):PW P M (.cond c x y) Q σ:=PW.condF (by rw [hc,hb]) h
end
section
open Go.RowKit
variable {P:Program} {M:Nat} {Q:Exit→PS→Prop} {σ:PS}
def PWin (P:Program) (M:Nat) (c:Code) (Q:Exit→PS→Prop) (σ:PS):Prop:=
 ∀Φ0 W a w,Rel Φ0 W M σ a w→∀b k cs,b.roundOf=(FW Φ0.round).round→(FW Φ0.round).fn b.fn→(FW Φ0.round).room (cs.length+1+0)→∃e a' w',Lift Φ0 W M Q e a' w'∧ArrivesIn (Machine.fenced P (FW Φ0.round)) P (lone (b.atR a (.code c :: .inLoop c :: k)) cs w) b k cs e a' w'
theorem PWin.from {c:Code} (h:PWin P M c Q σ) {Φ0 Φ1:Ent} {W W1:World} (hl:Later Φ0 W Φ1 W1) {a:Act} {w:World} (hr:Rel Φ1 W1 M σ a w):∀b k cs,b.roundOf=(FW Φ0.round).round→(FW Φ0.round).fn b.fn→(FW Φ0.round).room (cs.length+1+0)→∃e a' w',Lift Φ0 W M Q e a' w'∧ArrivesIn (Machine.fenced P (FW Φ0.round)) P (lone (b.atR a (.code c :: .inLoop c :: k)) cs w) b k cs e a' w':=by
 have:=h Φ1 W1 a w hr
 rw [hl.round] at this
 intro b k cs h1 h2 h3
 obtain ⟨e,a',w',hq,harr⟩:=this b k cs h1 h2 h3
 exact ⟨e,a',w',hq.later hl,harr⟩
def LoopU (P:Program) (M:Nat) (c:Code) (Q:Exit→PS→Prop):Exit→PS→Prop
 | .normal,σ=>PWin P M c Q σ
 |e,σ=>Q e σ
theorem PWin.round {c:Code} (h:PW P M c (LoopU P M c Q) σ):PWin P M c Q σ:=by
 intro Φ0 W a w hr b k cs hro hb hroom
 obtain ⟨e,a₁,w₁,⟨σ₁,Φ1,W1,hq,hl,hrel⟩,harr⟩:=h Φ0 W a w hr b (.inLoop c :: k) cs hro hb hroom
 cases e with
 |normal=>
  obtain ⟨e₂,a₂,w₂,hq₂,harr₂⟩:=PWin.from hq hl hrel b k cs hro hb hroom
  exact ⟨e₂,a₂,w₂,hq₂, .of_steps (StepsIn.trans harr (.one (fenced_calm hb hroom rfl) stepR_inLoop)) harr₂⟩
 |exit id=>exact ⟨_,a₁,w₁,⟨σ₁,Φ1,W1,hq,hl,hrel⟩, .pass (x:=.inLoop c) rfl (fun _ _=>.inl (by simp)) harr⟩
 |goto l=>exact ⟨_,a₁,w₁,⟨σ₁,Φ1,W1,hq,hl,hrel⟩, .pass (x:=.inLoop c) rfl (fun _ _=>.inl (by simp)) harr⟩
 |ret=>exact ⟨_,a₁,w₁,⟨σ₁,Φ1,W1,hq,hl,hrel⟩, .pass (x:=.inLoop c) rfl (fun _ _=>.inl (by simp)) harr⟩
 |panic ch=>exact ⟨_,a₁,w₁,⟨σ₁,Φ1,W1,hq,hl,hrel⟩, .pass (x:=.inLoop c) rfl (fun _ _=>.inl (by simp)) harr⟩
 |outgrown=>exact ⟨_,a₁,w₁,⟨σ₁,Φ1,W1,hq,hl,hrel⟩, .pass (x:=.inLoop c) rfl (fun _ _=>.inl (by simp)) harr⟩
theorem loopU_exit {c:Code} {j:Nat} (h:Q (.exit j) σ):LoopU P M c Q (.exit j) σ:=h
theorem loopU_ret {c:Code} (h:Q .ret σ):LoopU P M c Q .ret σ:=h
end
section
open Go.RowKit
variable {κ:Nat→Nat} {S:Nat→Prop} {σ σ' : PS}
theorem SubR.isb {i:Nat} {c:List PV} (h:SubR κ S σ (σ'.setb i c)):SubR κ S σ (σ'.setb i c):=h
theorem SubR.ism {i:Nat} {c:PMap} (h:SubR κ S σ (σ'.setm i c)):SubR κ S σ (σ'.setm i c):=h
theorem SubR.isp {i:Nat} {c:PV} (h:SubR κ S σ (σ'.put i c)):SubR κ S σ (σ'.put i c):=h
end
section
open Go.RowKit
def pu32 (z:Int):PV:=.val (.int .u32 z)
def pu64 (z:Int):PV:=.val (.int .u64 z)
theorem low_pu32 (z:Int):Low (pu32 z)↔True:=low_val _
theorem low_pu64 (z:Int):Low (pu64 z)↔True:=low_val _
theorem len_map {α β:Type} {f:α→β} {l:List α} {n:Nat} (h:l.length=n):(l.map f).length=n:=by rw [List.length_map,h]
theorem bare_map {α:Type} {f:α→PV} (h:∀x,(f x).bare=f x) (l:List α):(l.map f).map PV.bare=l.map f:=by rw [List.map_map];exact List.map_congr_left fun x _=>h x
theorem one_map {α:Type} {f:α→PV} (h:∀x,(f x).one=true) (l:List α):(l.map f).all PV.one=true:=by rw [List.all_map,List.all_eq_true];exact fun x _=>h x
theorem low_map {α:Type} {f:α→PV} (h:∀x,Low (f x)) (l:List α):∀c∈l.map f,Low c:=by
 intro c hc
 obtain ⟨z,-,rfl⟩:=List.mem_map.1 hc
 exact h z
theorem RenQL.lowE {κ:Nat→Nat} {S:Nat→Prop} {qs ps:List PV} (h:qs=ps) (hl:∀p∈ps,Low p):RenQL κ S qs ps:=by subst h;exact RenQL.low hl
end
section
open Go.RowKit
variable {P:Program} {T:Tab} {σ:PS} {o:Oper} {i base:Nat} {ops:Array Oper} {ok:Nat→Nat→Bool} {rest:List (Nat×Oper)} {K:PS→Prop}
def notI64:IntKind→Bool
 | .i64=>false
 |_=>true
theorem PWops.arU {d:Nat} {k:IntKind} {z:Int} (hk:isArith o.op=true) (hg:pguard ops σ o=some true) (hd:o.dst=some d) (hE:feff (presE T (headB ops o.dst) (base+i) (σ.only (ok i)) o.op)=some (.val (.int k z))) (hn:notI64 k=true) (hb:σ.freeB (base+i)=true) (kn:PWops P T ops base ok rest K (σ.put d (.val (.int k z)))):PWops P T ops base ok ((i,o) :: rest) K σ:=PWops.val hg hd hE hb kn
theorem PWops.idxE1 {d n:Nat} {e:TypeId} {ag:Bool} {z:Int} {cs:List PV} {kk:IntKind} {x ix:Operand} {t:TypeId} {ti:TyI} (hg:pguard ops σ o=some true) (hd:o.dst=some d) (hop:o.op = .indexAddr t x ix) (hx:pev σ x = .ep cs 0) (hi:pev σ ix = .val (.int kk z)) (ht:T.at t=some ti) (hk:ti.kind = .arr n e 1 ag) (hb:σ.freeB (base+i)=true) (h0:0≤z∧z < n)
  (kn:PWops P T ops base ok rest K (σ.put d (.ep cs z.toNat))):PWops P T ops base ok ((i,o) :: rest) K σ:=by
 refine pres_pval hg hd ?_ hb kn
 have h1:(0:Int)≤z∧z < (n:Int):=h0
 simp [hop,presE,pvalA,pval,pev_only,hx,hi,ht,hk,pindexAt,h1]
theorem PWops.idxP1 {d n m:Nat} {e:TypeId} {ag:Bool} {z:Int} {kk:IntKind} {x ix:Operand} {t:TypeId} {ti:TyI} (hg:pguard ops σ o=some true) (hd:o.dst=some d) (hop:o.op = .indexAddr t x ix) (hx:pev σ x = .ptr m 0) (hi:pev σ ix = .val (.int kk z)) (ht:T.at t=some ti) (hk:ti.kind = .arr n e 1 ag) (hb:σ.freeB (base+i)=true) (h0:0≤z∧z < n)
  (kn:PWops P T ops base ok rest K (σ.put d (.ptr m z.toNat))):PWops P T ops base ok ((i,o) :: rest) K σ:=by
 refine pres_pval hg hd ?_ hb kn
 have h1:(0:Int)≤z∧z < (n:Int):=h0
 simp [hop,presE,pvalA,pval,pev_only,hx,hi,ht,hk,pindexAt,h1]
theorem PWops.idxV {α:Type} [Inhabited α] {d n:Nat} {e:TypeId} {z:Int} {f:α→PV} {l:List α} {q:PV} {kk:IntKind} {x ix:Operand} {t:TypeId} {ti:TyI} (hg:pguard ops σ o=some true) (hd:o.dst=some d) (hop:o.op = .index t x ix) (hx:pev σ x = .agg (l.map f)) (hi:pev σ ix = .val (.int kk z)) (ht:T.at t=some ti) (hk:ti.kind = .arr n e 1 false) (hb:σ.freeB (base+i)=true) (h0:0≤z∧z < n∧z < l.length) (hq:fval (f (l.getD z.toNat default)).bare=some q)
  (kn:PWops P T ops base ok rest K (σ.put d q)):PWops P T ops base ok ((i,o) :: rest) K σ:=by
 refine PWops.valEq hg hd (p:=(f (l.getD z.toNat default)).bare) ?_ (fval_eq hq) hb kn
 have h1:(0:Int)≤z∧z < (n:Int):=⟨h0.1,h0.2.1⟩
 have h2:(l.map f)[z.toNat]? = some (f (l.getD z.toNat default)):=map_get (getD_get default (by omega))
 simp [hop,presE,pvalA,pval,pev_only,hx,hi,ht,hk,pindexV,h1,asVal,h2]
theorem PWops.ldG {d m:Nat} {cs:List PV} {x:Operand} {t:TypeId} {kd:TD} {zr:List PV} {es:List SK} (hg:pguard ops σ o=some true) (hd:o.dst=some d) (hop:o.op = .load t x) (hx:pev σ x = .ep cs 0) (ht:T.at t=some ⟨m,true,kd,zr,es⟩) (hb:σ.freeB (base+i)=true) (hl:cs.length=m) (hr:cs.map PV.bare=cs)
  (kn:PWops P T ops base ok rest K (σ.put d (.agg cs))):PWops P T ops base ok ((i,o) :: rest) K σ:=by
 refine PWops.ldA hg hd hop hx ht hb (by omega) ?_ kn
 rw [List.drop_zero,List.take_of_length_le (by omega)];exact hr
theorem PWops.ldMB {α:Type} [Inhabited α] {d id off:Nat} {f:α→PV} {l:List α} {q:PV} {x:Operand} {t:TypeId} {ti:TyI} (hg:pguard ops σ o=some true) (hd:o.dst=some d) (hop:o.op = .load t x) (hx:pev σ x = .ptr id off) (ht:T.at t=some ti) (ha:ti.agg=false) (hb:σ.freeB (base+i)=true) (hbs:(σ.only (ok i)).b id=some (l.map f)) (hl:off < l.length) (hq:fval (f (l.getD off default))=some q) (hn:(f (l.getD off default)).ownB=false)
  (kn:PWops P T ops base ok rest K (σ.put d q)):PWops P T ops base ok ((i,o) :: rest) K σ:=
 PWops.ldB hg hd hop hx ht ha hb hbs (map_get (getD_get default hl)) hn (by rw [fval_eq hq];exact kn)
theorem set_map {α β:Type} (f:α→β) (l:List α) (j:Nat) (x:α):(l.map f).set j (f x)=(l.set j x).map f:=by
 rw [List.map_set]
theorem splice_one {bs:List PV} {off:Nat} {c:PV} (h:off < bs.length):splice bs off [c]=bs.set off c:=by
 unfold splice
 rw [List.set_eq_take_append_cons_drop,if_pos h];simp
theorem PWops.stMB {α:Type} {id off:Nat} {f:α→PV} {l:List α} {v:α} {x y:Operand} {t:TypeId} {ti:TyI} (hg:pguard ops σ o=some true) (hd:o.dst=none) (hop:o.op = .store t x y) (hx:pev σ x = .ptr id off) (hn:(ownPV σ y).ownB=false) (ht:T.at t=some ti) (hb:σ.freeB (base+i)=true) (hbs:(σ.only (ok i)).b id=some (l.map f)) (hp:pcells (pev σ y)=some [f v]) (hs:ti.size=1) (hl:off < l.length)
  (kn:PWops P T ops base ok rest K (σ.setb id ((l.set off v).map f))):PWops P T ops base ok ((i,o) :: rest) K σ:=by
 refine PWops.stB hg hd hop hx hn hp ht hb hbs ⟨by rw [hs];rfl,by simp;omega⟩ ?_ kn
 rw [splice_one (by simpa using hl),set_map]
theorem PWops.slcP {d id o' n k h l:Nat} {e:TypeId} {ag:Bool} {x:Operand} {lo hi:Option Operand} {t:TypeId} {ti:TyI} (hg:pguard ops σ o=some true) (hd:o.dst=some d) (hop:o.op = .slice t x lo hi none) (hx:pev σ x = .ptr id o') (ht:T.at t=some ti) (hk:ti.kind = .arr n e k ag) (hb:σ.freeB (base+i)=true) (hh:pbound n n (hi.map (pev σ))=some h) (hlo:pbound 0 h (lo.map (pev σ))=some l) (hn:n≤1000000000)
  (kn:PWops P T ops base ok rest K (σ.put d (.msl id (o' + l * k) (h - l) k))):PWops P T ops base ok ((i,o) :: rest) K σ:=by
 refine pres_pval hg hd ?_ hb kn
 have e1:∀x:Operand,pev (σ.only (ok i)) x=pev σ x:=fun x=>pev_only ..
 have e2:∀x:Option Operand,x.map (pev (σ.only (ok i)))=x.map (pev σ):=fun x=>by cases x<;>simp [e1]
 simp [hop,presE,pvalA,pval,pev_only,e2,hx,ht,hk,pslice,hh,hlo,hn]
end
section
open Go.RowKit
theorem Flat.lowF {p:PV} (h:Flat p):Low p:=by
 induction h with
 |undef=>exact .undef
 |val v=>exact .val v
 |nilsl=>exact .nilsl
 |agg cs h ih=>exact .agg cs ih
 |tup cs h ih=>exact .tup cs ih
end
section
open Go.RowKit
variable {P:Program} {T:Tab} {σ:PS} {o:Oper} {i base:Nat} {ops:Array Oper} {ok:Nat→Nat→Bool} {rest:List (Nat×Oper)} {K:PS→Prop}
theorem PWops.valE {d:Nat} {p q:PV} (hg:pguard ops σ o=some true) (hd:o.dst=some d) (hE:feff (presE T (headB ops o.dst) (base+i) (σ.only (ok i)) o.op)=some p) (e:p=q) (hb:σ.freeB (base+i)=true) (k:PWops P T ops base ok rest K (σ.put d q)):PWops P T ops base ok ((i,o) :: rest) K σ:=
 PWops.val hg hd (by rw [hE,e]) hb k
theorem PWops.cvI {d:Nat} {z:Int} {x:Operand} {ts td:TypeId} (hop:o.op = .convert ts td x) (hg:pguard ops σ o=some true) (hd:o.dst=some d) (hE:feff (presE T (headB ops o.dst) (base+i) (σ.only (ok i)) o.op)=some (.val (.int .i64 (IntKind.i64.wrap z)))) (h1 : -9223372036854775808≤z) (h2:z≤9223372036854775807) (hb:σ.freeB (base+i)=true) (k:PWops P T ops base ok rest K (σ.put d (.val (.int .i64 z)))):PWops P T ops base ok ((i,o) :: rest) K σ:=
 PWops.valE hg hd hE (by rw [wrap64_id h1 h2]) hb k
end
section
open Go.RowKit
structure Hold2 (q:Prop):Prop where
 out:q
theorem ops0 {p q:Prop} (k:q) (h:Hold2 q→p:=by intro hHold;((with_reducible refine PWops.idd ?_);first|(first|refine PWops.cvI rfl rfl rfl rfl (by (first|omega|(dsimp only;omega))) (by (first|omega|(dsimp only;omega))) rfl ?_|refine PWops.stepA rfl ?_|refine PWops.doneI rfl ?_|refine PWops.boolK true rfl rfl rfl rfl (by (first|rfl|assumption|(simp only [decide_eq_true_eq,decide_eq_false_iff_not,bne_iff_ne,beq_iff_eq,beq_eq_false_iff_ne,bne_eq_false_iff_eq,ne_eq];omega))) rfl ?_|refine PWops.boolK false rfl rfl rfl rfl (by (first|rfl|assumption|(simp only [decide_eq_true_eq,decide_eq_false_iff_not,bne_iff_ne,beq_iff_eq,beq_eq_false_iff_ne,bne_eq_false_iff_eq,ne_eq];omega))) rfl ?_|refine PWops.fitsK rfl rfl rfl rfl (by (first|omega|(dsimp only;omega))) (by (first|omega|(dsimp only;omega))) rfl ?_|refine PWops.remK rfl rfl rfl rfl (by (first|omega|(dsimp only;omega))) rfl ?_|refine PWops.quoK rfl rfl rfl rfl (by (first|omega|(dsimp only;omega))) rfl ?_|refine PWops.app rfl rfl rfl rfl rfl rfl rfl rfl (by (first|omega|(dsimp only;omega))) (by (first|omega|(dsimp only;omega))) (by first|rfl|exact secL_one _|exact putL_one _|exact one_pint _|exact one_pstr _|exact one_pbyte _|exact one_pattrs _) ?_|refine PWops.app0 rfl rfl rfl rfl rfl rfl rfl rfl (by (first|omega|(dsimp only;omega))) (by (first|omega|(dsimp only;omega))) (by first|rfl|exact secL_one _|exact putL_one _|exact one_pint _|exact one_pstr _|exact one_pbyte _|exact one_pattrs _) ?_|refine PWops.idx1 rfl rfl rfl rfl rfl rfl rfl rfl (by (first|omega|(dsimp only;omega))) ?_|refine PWops.idx rfl rfl rfl rfl rfl rfl rfl rfl (by (first|omega|(dsimp only;omega))) ?_|refine PWops.ld rfl rfl rfl rfl rfl rfl rfl (by assumption) rfl ?_|refine PWops.ldA rfl rfl rfl rfl rfl rfl (by (first|omega|(dsimp only;omega))) (by assumption) ?_|refine PWops.str rfl rfl rfl rfl rfl rfl rfl rfl rfl rfl rfl ?_)|(first|refine PWops.arU rfl rfl rfl rfl rfl rfl ?_|refine PWops.boxA rfl rfl rfl rfl rfl (by (first|rfl|exact secL_one _|exact dcellL_one _|exact putL_one _|exact one_map (fun _=>rfl) _)) (by (first|rfl|exact secL_bare _|exact dcellL_bare _|exact putL_bare _|exact bare_map (fun _=>rfl) _)) ?_|refine PWops.litA rfl rfl rfl rfl rfl rfl rfl (by (first|rfl|exact secL_len _|exact dcellL_len _|exact putL_len _|exact len_map (by assumption)|exact len_map rfl)) rfl rfl rfl (by (first|rfl|exact secL_one _|exact dcellL_one _|exact putL_one _|exact one_map (fun _=>rfl) _)) (by (first|rfl|exact secL_bare _|exact dcellL_bare _|exact putL_bare _|exact bare_map (fun _=>rfl) _)) ?_|refine PWops.shlK rfl rfl rfl rfl rfl rfl (by (first|omega|(dsimp only;omega)|decide)) ?_|refine PWops.shrK rfl rfl rfl rfl rfl rfl (by (first|omega|(dsimp only;omega)|decide)) ?_|refine PWops.ldBC rfl rfl rfl rfl rfl rfl rfl rfl (by (first|exact secL_len|exact dcellL_len|exact putL_len|(intro;rfl))) (by (first|omega|(dsimp only;omega))) (by (first|rfl|exact dcellL_64 _)) rfl ?_|refine PWops.ldRB rfl rfl rfl rfl rfl rfl (by (first|exact secL_len|exact dcellL_len|exact putL_len|(intro;rfl))) (by (first|omega|(dsimp only;omega))) (by (first|exact secL_bare|exact dcellL_bare|exact putL_bare|(intro;rfl))) ?_|refine PWops.ldSec rfl rfl rfl rfl rfl rfl rfl (by first|with_reducible rfl|with_reducible exact dC_flat _) (by rfl) (by (first|omega|(dsimp only;omega))) ?_|refine PWops.ldBR rfl rfl rfl rfl rfl rfl rfl (by (first|exact secL_len|exact dcellL_len|exact putL_len|(intro;rfl))) (by (first|omega|(dsimp only;omega))) (by (first|exact secL_bare _|exact dcellL_bare _|exact putL_bare _|rfl)) ?_|refine PWops.lkp rfl rfl rfl rfl rfl rfl rfl rfl rfl rfl rfl (by assumption) ?_|refine PWops.ldAll rfl rfl rfl rfl rfl rfl rfl (by (first|rfl|exact secL_len _|exact dcellL_len _|exact putL_len _|exact len_map (by assumption)|exact len_map rfl)) (by (first|rfl|exact secL_bare _|exact dcellL_bare _|exact putL_bare _|exact bare_map (fun _=>rfl) _)) ?_|refine PWops.stAll rfl rfl rfl rfl rfl rfl rfl rfl rfl (by (first|rfl|exact secL_len _|exact dcellL_len _|exact putL_len _|exact len_map (by assumption)|exact len_map rfl)) (by (first|rfl|exact secL_len _|exact dcellL_len _|exact putL_len _|exact len_map (by assumption)|exact len_map rfl)) (by (first|rfl|exact secL_one _|exact dcellL_one _|exact putL_one _|exact one_map (fun _=>rfl) _)) (by (first|rfl|exact secL_bare _|exact dcellL_bare _|exact putL_bare _|exact bare_map (fun _=>rfl) _)) ?_|refine PWops.idxM rfl rfl rfl rfl rfl rfl rfl rfl (by (first|omega|(dsimp only;omega))) ?_|refine PWops.idxP1 rfl rfl rfl rfl rfl rfl rfl rfl (by (first|omega|(dsimp only;omega))) ?_|refine PWops.idxP rfl rfl rfl rfl rfl rfl rfl rfl (by (first|omega|(dsimp only;omega))) ?_|(refine PWops.call rfl rfl rfl (by assumption) ?_)|(refine PWops.callR rfl rfl (by assumption) (by (first|exact trivial|exact ⟨⟨rfl,rfl⟩,trivial⟩|exact ⟨⟨rfl,rfl⟩,⟨rfl,rfl⟩,trivial⟩|exact ⟨⟨rfl,rfl⟩,⟨rfl,rfl⟩,⟨rfl,rfl⟩,trivial⟩|exact ⟨⟨rfl,rfl⟩,⟨rfl,rfl⟩,⟨rfl,rfl⟩,⟨rfl,rfl⟩,trivial⟩|exact ⟨⟨rfl,rfl⟩,⟨rfl,rfl⟩,⟨rfl,rfl⟩,⟨rfl,rfl⟩,⟨rfl,rfl⟩,trivial⟩|exact ⟨⟨rfl,rfl⟩,⟨rfl,rfl⟩,⟨rfl,rfl⟩,⟨rfl,rfl⟩,⟨rfl,rfl⟩,⟨rfl,rfl⟩,trivial⟩|exact ⟨⟨rfl,rfl⟩,⟨rfl,rfl⟩,⟨rfl,rfl⟩,⟨rfl,rfl⟩,⟨rfl,rfl⟩,⟨rfl,rfl⟩,⟨rfl,rfl⟩,trivial⟩|exact ⟨⟨rfl,rfl⟩,⟨rfl,rfl⟩,⟨rfl,rfl⟩,⟨rfl,rfl⟩,⟨rfl,rfl⟩,⟨rfl,rfl⟩,⟨rfl,rfl⟩,⟨rfl,rfl⟩,trivial⟩)) (by (first|exact trivial|exact ⟨⟨rfl,rfl⟩,trivial⟩|exact ⟨⟨rfl,rfl⟩,⟨rfl,rfl⟩,trivial⟩|exact ⟨⟨rfl,rfl⟩,⟨rfl,rfl⟩,⟨rfl,rfl⟩,trivial⟩|exact ⟨⟨rfl,rfl⟩,⟨rfl,rfl⟩,⟨rfl,rfl⟩,⟨rfl,rfl⟩,trivial⟩|exact ⟨⟨rfl,rfl⟩,⟨rfl,rfl⟩,⟨rfl,rfl⟩,⟨rfl,rfl⟩,⟨rfl,rfl⟩,trivial⟩|exact ⟨⟨rfl,rfl⟩,⟨rfl,rfl⟩,⟨rfl,rfl⟩,⟨rfl,rfl⟩,⟨rfl,rfl⟩,⟨rfl,rfl⟩,trivial⟩|exact ⟨⟨rfl,rfl⟩,⟨rfl,rfl⟩,⟨rfl,rfl⟩,⟨rfl,rfl⟩,⟨rfl,rfl⟩,⟨rfl,rfl⟩,⟨rfl,rfl⟩,trivial⟩|exact ⟨⟨rfl,rfl⟩,⟨rfl,rfl⟩,⟨rfl,rfl⟩,⟨rfl,rfl⟩,⟨rfl,rfl⟩,⟨rfl,rfl⟩,⟨rfl,rfl⟩,⟨rfl,rfl⟩,trivial⟩)) rfl (by first|exact .inl rfl|exact .inr (fun _ _=>rfl)) ?_)|(refine PWops.callH rfl rfl (by assumption) (by (first|exact trivial|exact ⟨⟨rfl,rfl⟩,trivial⟩|exact ⟨⟨rfl,rfl⟩,⟨rfl,rfl⟩,trivial⟩|exact ⟨⟨rfl,rfl⟩,⟨rfl,rfl⟩,⟨rfl,rfl⟩,trivial⟩|exact ⟨⟨rfl,rfl⟩,⟨rfl,rfl⟩,⟨rfl,rfl⟩,⟨rfl,rfl⟩,trivial⟩|exact ⟨⟨rfl,rfl⟩,⟨rfl,rfl⟩,⟨rfl,rfl⟩,⟨rfl,rfl⟩,⟨rfl,rfl⟩,trivial⟩|exact ⟨⟨rfl,rfl⟩,⟨rfl,rfl⟩,⟨rfl,rfl⟩,⟨rfl,rfl⟩,⟨rfl,rfl⟩,⟨rfl,rfl⟩,trivial⟩|exact ⟨⟨rfl,rfl⟩,⟨rfl,rfl⟩,⟨rfl,rfl⟩,⟨rfl,rfl⟩,⟨rfl,rfl⟩,⟨rfl,rfl⟩,⟨rfl,rfl⟩,trivial⟩|exact ⟨⟨rfl,rfl⟩,⟨rfl,rfl⟩,⟨rfl,rfl⟩,⟨rfl,rfl⟩,⟨rfl,rfl⟩,⟨rfl,rfl⟩,⟨rfl,rfl⟩,⟨rfl,rfl⟩,trivial⟩)) (by (first|exact trivial|exact ⟨⟨rfl,rfl⟩,trivial⟩|exact ⟨⟨rfl,rfl⟩,⟨rfl,rfl⟩,trivial⟩|exact ⟨⟨rfl,rfl⟩,⟨rfl,rfl⟩,⟨rfl,rfl⟩,trivial⟩|exact ⟨⟨rfl,rfl⟩,⟨rfl,rfl⟩,⟨rfl,rfl⟩,⟨rfl,rfl⟩,trivial⟩|exact ⟨⟨rfl,rfl⟩,⟨rfl,rfl⟩,⟨rfl,rfl⟩,⟨rfl,rfl⟩,⟨rfl,rfl⟩,trivial⟩|exact ⟨⟨rfl,rfl⟩,⟨rfl,rfl⟩,⟨rfl,rfl⟩,⟨rfl,rfl⟩,⟨rfl,rfl⟩,⟨rfl,rfl⟩,trivial⟩|exact ⟨⟨rfl,rfl⟩,⟨rfl,rfl⟩,⟨rfl,rfl⟩,⟨rfl,rfl⟩,⟨rfl,rfl⟩,⟨rfl,rfl⟩,⟨rfl,rfl⟩,trivial⟩|exact ⟨⟨rfl,rfl⟩,⟨rfl,rfl⟩,⟨rfl,rfl⟩,⟨rfl,rfl⟩,⟨rfl,rfl⟩,⟨rfl,rfl⟩,⟨rfl,rfl⟩,⟨rfl,rfl⟩,trivial⟩)) rfl (by first|exact .inl rfl|exact .inr (fun _ _=>rfl)) ?_)|refine PWops.idxZ1 rfl rfl rfl rfl rfl rfl rfl rfl (by (first|omega|(dsimp only;omega))) ?_|refine PWops.idxZ rfl rfl rfl rfl rfl rfl rfl rfl (by (first|omega|(dsimp only;omega))) ?_|refine PWops.ld rfl rfl rfl rfl rfl rfl rfl rfl rfl ?_|refine PWops.slcL rfl rfl rfl rfl rfl rfl rfl rfl (by (first|omega|(dsimp only;omega))) ?_|refine PWops.slcH rfl rfl rfl rfl rfl rfl rfl rfl (by (first|omega|(dsimp only;omega))) ?_|refine PWops.slcRL rfl rfl rfl rfl rfl rfl rfl rfl (by intro;rfl) (by (first|omega|(dsimp only;omega))) ?_|refine PWops.slcRH rfl rfl rfl rfl rfl rfl rfl rfl (by intro;rfl) (by (first|omega|(dsimp only;omega))) ?_|refine PWops.slcM rfl rfl rfl rfl rfl rfl rfl rfl rfl (by (first|omega|(dsimp only;omega))) ?_|refine PWops.ldM rfl rfl rfl rfl rfl rfl rfl (by (first|omega|(dsimp only;omega))) rfl ?_|refine PWops.ldR rfl rfl rfl rfl rfl rfl rfl (by (first|exact secL_len|exact dcellL_len|exact putL_len|(intro;rfl))) (by (first|omega|(dsimp only;omega))) rfl rfl ?_|refine PWops.ldRA rfl rfl rfl rfl rfl rfl (by intro;rfl) (by (first|omega|(dsimp only;omega))) rfl ?_|refine PWops.slcP rfl rfl rfl rfl rfl rfl rfl rfl rfl (by decide) ?_|refine PWops.idxE1 rfl rfl rfl rfl rfl rfl rfl rfl (by (first|omega|(dsimp only;omega))) ?_|refine PWops.ldG rfl rfl rfl rfl rfl rfl (by (first|rfl|exact secL_len _|exact dcellL_len _|exact putL_len _|exact len_map (by assumption)|exact len_map rfl)) (by (first|rfl|exact secL_bare _|exact dcellL_bare _|exact putL_bare _|exact bare_map (fun _=>rfl) _)) ?_|refine PWops.ldMB rfl rfl rfl rfl rfl rfl rfl rfl (by (first|omega|(dsimp only;omega))) rfl rfl ?_|refine PWops.stMB rfl rfl rfl rfl rfl rfl rfl rfl rfl rfl (by (first|omega|(dsimp only;omega))) ?_|refine PWops.idxV rfl rfl rfl rfl rfl rfl rfl rfl (by (first|omega|(dsimp only;omega))) rfl ?_));exact hHold.out):p:=h ⟨k⟩
theorem jw0 {p q:Prop} (k:q) (h:Hold2 q→p:=by intro hHold;((repeat (first|(with_reducible first|refine thenJ ?_|refine thenJ_ret ?_|refine thenJ_exit ?_|refine blockJ ?_|refine blockJ_exit ?_|refine blockJ_ret ?_|refine blockJ_other (by decide) ?_|refine loopJ_exit ?_|refine loopJ_ret ?_|refine PWJ.seq ?_|refine PWJ.block ?_|refine PWJ.skip ?_|refine PWJ.ret ?_|refine PWJ.exit ?_|refine PWJ.condT rfl ?_|refine PWJ.condF rfl ?_)|refine PWJ.condT rfl ?_|refine PWJ.condF rfl ?_)));exact hHold.out):p:=h ⟨k⟩
theorem li0 {p:Prop} (h:p:=by (repeat (first|exact li_nil|exact lb_nil|refine lb_cons ?_ ?_|refine li_cons ?_ ?_|exact dB_lowI (by first|simp [ResIds]|simp [ResIds,dG,dMs,jG]|simp [ResIds,dG,dMs,crG,crM]|simp [ResIds,dG,dMs]) (by first|simp [ResIds]|simp [ResIds,dG,dMs,jG]|simp [ResIds,dG,dMs,crG,crM]|simp [ResIds,dG,dMs]) _|exact li_low (dC_low _)|exact LowI.ptr _ _ (by first|simp [ResIds]|simp [ResIds,dG,dMs,jG]|simp [ResIds,dG,dMs,crG,crM]|simp [ResIds,dG,dMs])|exact LowI.mref _ (by first|simp [ResIds]|simp [ResIds,dG,dMs,jG]|simp [ResIds,dG,dMs,crG,crM]|simp [ResIds,dG,dMs])|exact LowI.msl _ _ _ _ (by first|simp [ResIds]|simp [ResIds,dG,dMs,jG]|simp [ResIds,dG,dMs,crG,crM]|simp [ResIds,dG,dMs])|exact LowI.val _|exact LowI.nilsl|exact Low.lowI (low_pputs _)|exact Low.lowI (psec_low _)|exact li_low (secL_low _)|exact li_low (by assumption)|refine LowI.agg _ ?_|refine LowI.fn _ _ ?_|refine LowI.tup _ ?_|refine LowI.sl _ _ _ _ ?_))):p:=h
theorem rq0 {p:Prop} (h:p:=by (first|exact .inl (.ptr _ _ rfl)|exact .inl (.msl _ _ _ _ rfl)|exact .inl (.mref _ rfl)|exact .inl (.low _ (by exact lw))|exact .inr (.inl (.low _ (by exact lw)))|exact .inr (.inr ⟨_,_,rfl,rfl⟩))):p:=h
theorem rl0 {p:Prop} (h:p:=by (first|exact RenQL.low (by first|assumption|exact hlow _|exact hlow _ _|exact low_map (fun _=>Low.val _) _)|exact RenQL.lowE (by assumption) (low_map (fun _=>Low.val _) _)|((repeat (refine RenQL.cons (by exact rq0) ?_));exact RenQL.nil))):p:=h
theorem lt0 {p:Prop} (h:p:=by (repeat (first|exact lowT_bot|refine lowT_put ?_ (by first|exact .ptr _ _ rfl|exact .mref _ rfl|exact Low.lowI (by exact lw))|refine lowT_setb ?_|refine lowT_setm ?_))):p:=h
theorem ow0 {p:Prop} (h:p:=by (repeat (first|exact ownsS_bot|refine OwnsS.put ?_ rfl|refine OwnsS.setb ?_ (by first|exact ownsX_nil|exact ownsX_cons (ownsX_no rfl) ownsX_nil|exact ownsX_cons (ownsX_no rfl) (ownsX_cons (ownsX_no rfl) ownsX_nil)|assumption)))):p:=h
theorem kn0 {p:Prop} (h:p:=by (repeat (first|exact kn_bot|refine kn_put ?_|refine kn_setb ?_|refine kn_setm ?_))):p:=h
theorem sbF {p:Prop} (h:p:=by (refine Sub.same ?_;exact sbrF)):p:=h
theorem sbrF {p:Prop} (h:p:=by (repeat (first|exact SubR.bot|((with_reducible refine SubR.isp ?_);refine SubR.put ?_ (by exact rq0))|((with_reducible refine SubR.isb ?_);refine SubR.setb ?_ rfl rfl (by first|exact rq_fn1 rfl|exact rl0))))):p:=h
theorem hok0 {p:Prop} (h:p:=by (refine ⟨by exact li0,by exact li0,by first|exact lm_nil|exact lm_cons (dM_low _) lm_nil,?_,by exact li0,by first|exact lm_nil|exact lm_cons (dM_low _) lm_nil,by first|simp|simp [jG,dG],by first|simp|simp [dMs]⟩;exact li0)):p:=h
theorem ren0 {p:Prop} (h:p:=by (repeat (first|exact RenL.nil|exact RenB.nil|exact RenMs.nil|exact RenMs.cons _ _ _ _ _ (RenM.low (dM_low _)) RenMs.nil|refine RenB.cons _ _ _ _ _ ?_ ?_|exact RenL.low (dC_low _)|refine RenL.cons ?_ ?_|exact Ren.ptr _ _ (by first|simp [ResIds]|simp [ResIds,dG,dMs,jG]|simp [ResIds,dG,dMs,crG,crM]|simp [ResIds,dG,dMs])|exact Ren.mref _ (by first|simp [ResIds]|simp [ResIds,dG,dMs,jG]|simp [ResIds,dG,dMs,crG,crM]|simp [ResIds,dG,dMs])|exact Ren.msl _ _ _ _ (by first|simp [ResIds]|simp [ResIds,dG,dMs,jG]|simp [ResIds,dG,dMs,crG,crM]|simp [ResIds,dG,dMs])|exact Ren.low _ (Low.val _)|exact Ren.low _ (low_pputs _)|exact Ren.low _ (psec_low _)|exact RenL.low (by assumption)|refine ren_agg ?_|refine ren_fn ?_|refine ren_sl ?_))):p:=h
theorem sbr0 {p:Prop} (h:p:=by (repeat (first|exact SubR.bot|((with_reducible refine SubR.isp ?_);refine SubR.put ?_ (by exact rq0))|((with_reducible refine SubR.isb ?_);refine SubR.setb ?_ rfl rfl (by exact rl0))|((with_reducible refine SubR.ism ?_);refine SubR.setm ?_ rfl rfl (by (first|exact ⟨rfl,rfl,rfl,rfl,rfl⟩|exact RenM.low (by first|assumption|exact hlowm _|exact hlowm _ _))))))):p:=h
structure Hold (q:Prop):Prop where
 out:q
theorem wk {p q:Prop} (k:q) (h:Hold q→p:=by intro hHold;(repeat (first|(with_reducible first|refine PW.seq ?_|refine PW.block ?_|refine PW.skip ?_|refine PW.exit ?_|refine PW.ret ?_|refine thenP ?_|refine thenP_exit ?_|refine thenP_ret ?_|refine blockP ?_|refine blockP_exit ?_|refine blockP_ret ?_|refine loopP_exit ?_|refine loopP_ret ?_|refine loopU_exit ?_|refine loopU_ret ?_)|((with_reducible refine PWops.idd ?_);first|(first|refine PWops.cvI rfl rfl rfl rfl (by (first|omega|(dsimp only;omega))) (by (first|omega|(dsimp only;omega))) rfl ?_|refine PWops.stepA rfl ?_|refine PWops.doneI rfl ?_|refine PWops.boolK true rfl rfl rfl rfl (by (first|rfl|assumption|(simp only [decide_eq_true_eq,decide_eq_false_iff_not,bne_iff_ne,beq_iff_eq,beq_eq_false_iff_ne,bne_eq_false_iff_eq,ne_eq];omega))) rfl ?_|refine PWops.boolK false rfl rfl rfl rfl (by (first|rfl|assumption|(simp only [decide_eq_true_eq,decide_eq_false_iff_not,bne_iff_ne,beq_iff_eq,beq_eq_false_iff_ne,bne_eq_false_iff_eq,ne_eq];omega))) rfl ?_|refine PWops.fitsK rfl rfl rfl rfl (by (first|omega|(dsimp only;omega))) (by (first|omega|(dsimp only;omega))) rfl ?_|refine PWops.remK rfl rfl rfl rfl (by (first|omega|(dsimp only;omega))) rfl ?_|refine PWops.quoK rfl rfl rfl rfl (by (first|omega|(dsimp only;omega))) rfl ?_|refine PWops.app rfl rfl rfl rfl rfl rfl rfl rfl (by (first|omega|(dsimp only;omega))) (by (first|omega|(dsimp only;omega))) (by first|rfl|exact secL_one _|exact putL_one _|exact one_pint _|exact one_pstr _|exact one_pbyte _|exact one_pattrs _) ?_|refine PWops.app0 rfl rfl rfl rfl rfl rfl rfl rfl (by (first|omega|(dsimp only;omega))) (by (first|omega|(dsimp only;omega))) (by first|rfl|exact secL_one _|exact putL_one _|exact one_pint _|exact one_pstr _|exact one_pbyte _|exact one_pattrs _) ?_|refine PWops.idx1 rfl rfl rfl rfl rfl rfl rfl rfl (by (first|omega|(dsimp only;omega))) ?_|refine PWops.idx rfl rfl rfl rfl rfl rfl rfl rfl (by (first|omega|(dsimp only;omega))) ?_|refine PWops.ld rfl rfl rfl rfl rfl rfl rfl (by assumption) rfl ?_|refine PWops.ldA rfl rfl rfl rfl rfl rfl (by (first|omega|(dsimp only;omega))) (by assumption) ?_|refine PWops.str rfl rfl rfl rfl rfl rfl rfl rfl rfl rfl rfl ?_)|(first|refine PWops.arU rfl rfl rfl rfl rfl rfl ?_|refine PWops.boxA rfl rfl rfl rfl rfl (by (first|rfl|exact secL_one _|exact dcellL_one _|exact putL_one _|exact one_map (fun _=>rfl) _)) (by (first|rfl|exact secL_bare _|exact dcellL_bare _|exact putL_bare _|exact bare_map (fun _=>rfl) _)) ?_|refine PWops.litA rfl rfl rfl rfl rfl rfl rfl (by (first|rfl|exact secL_len _|exact dcellL_len _|exact putL_len _|exact len_map (by assumption)|exact len_map rfl)) rfl rfl rfl (by (first|rfl|exact secL_one _|exact dcellL_one _|exact putL_one _|exact one_map (fun _=>rfl) _)) (by (first|rfl|exact secL_bare _|exact dcellL_bare _|exact putL_bare _|exact bare_map (fun _=>rfl) _)) ?_|refine PWops.shlK rfl rfl rfl rfl rfl rfl (by (first|omega|(dsimp only;omega)|decide)) ?_|refine PWops.shrK rfl rfl rfl rfl rfl rfl (by (first|omega|(dsimp only;omega)|decide)) ?_|refine PWops.ldBC rfl rfl rfl rfl rfl rfl rfl rfl (by (first|exact secL_len|exact dcellL_len|exact putL_len|(intro;rfl))) (by (first|omega|(dsimp only;omega))) (by (first|rfl|exact dcellL_64 _)) rfl ?_|refine PWops.ldRB rfl rfl rfl rfl rfl rfl (by (first|exact secL_len|exact dcellL_len|exact putL_len|(intro;rfl))) (by (first|omega|(dsimp only;omega))) (by (first|exact secL_bare|exact dcellL_bare|exact putL_bare|(intro;rfl))) ?_|refine PWops.ldSec rfl rfl rfl rfl rfl rfl rfl (by first|with_reducible rfl|with_reducible exact dC_flat _) (by rfl) (by (first|omega|(dsimp only;omega))) ?_|refine PWops.ldBR rfl rfl rfl rfl rfl rfl rfl (by (first|exact secL_len|exact dcellL_len|exact putL_len|(intro;rfl))) (by (first|omega|(dsimp only;omega))) (by (first|exact secL_bare _|exact dcellL_bare _|exact putL_bare _|rfl)) ?_|refine PWops.lkp rfl rfl rfl rfl rfl rfl rfl rfl rfl rfl rfl (by assumption) ?_|refine PWops.ldAll rfl rfl rfl rfl rfl rfl rfl (by (first|rfl|exact secL_len _|exact dcellL_len _|exact putL_len _|exact len_map (by assumption)|exact len_map rfl)) (by (first|rfl|exact secL_bare _|exact dcellL_bare _|exact putL_bare _|exact bare_map (fun _=>rfl) _)) ?_|refine PWops.stAll rfl rfl rfl rfl rfl rfl rfl rfl rfl (by (first|rfl|exact secL_len _|exact dcellL_len _|exact putL_len _|exact len_map (by assumption)|exact len_map rfl)) (by (first|rfl|exact secL_len _|exact dcellL_len _|exact putL_len _|exact len_map (by assumption)|exact len_map rfl)) (by (first|rfl|exact secL_one _|exact dcellL_one _|exact putL_one _|exact one_map (fun _=>rfl) _)) (by (first|rfl|exact secL_bare _|exact dcellL_bare _|exact putL_bare _|exact bare_map (fun _=>rfl) _)) ?_|refine PWops.idxM rfl rfl rfl rfl rfl rfl rfl rfl (by (first|omega|(dsimp only;omega))) ?_|refine PWops.idxP1 rfl rfl rfl rfl rfl rfl rfl rfl (by (first|omega|(dsimp only;omega))) ?_|refine PWops.idxP rfl rfl rfl rfl rfl rfl rfl rfl (by (first|omega|(dsimp only;omega))) ?_|(refine PWops.call rfl rfl rfl (by assumption) ?_)|(refine PWops.callR rfl rfl (by assumption) (by (first|exact trivial|exact ⟨⟨rfl,rfl⟩,trivial⟩|exact ⟨⟨rfl,rfl⟩,⟨rfl,rfl⟩,trivial⟩|exact ⟨⟨rfl,rfl⟩,⟨rfl,rfl⟩,⟨rfl,rfl⟩,trivial⟩|exact ⟨⟨rfl,rfl⟩,⟨rfl,rfl⟩,⟨rfl,rfl⟩,⟨rfl,rfl⟩,trivial⟩|exact ⟨⟨rfl,rfl⟩,⟨rfl,rfl⟩,⟨rfl,rfl⟩,⟨rfl,rfl⟩,⟨rfl,rfl⟩,trivial⟩|exact ⟨⟨rfl,rfl⟩,⟨rfl,rfl⟩,⟨rfl,rfl⟩,⟨rfl,rfl⟩,⟨rfl,rfl⟩,⟨rfl,rfl⟩,trivial⟩|exact ⟨⟨rfl,rfl⟩,⟨rfl,rfl⟩,⟨rfl,rfl⟩,⟨rfl,rfl⟩,⟨rfl,rfl⟩,⟨rfl,rfl⟩,⟨rfl,rfl⟩,trivial⟩|exact ⟨⟨rfl,rfl⟩,⟨rfl,rfl⟩,⟨rfl,rfl⟩,⟨rfl,rfl⟩,⟨rfl,rfl⟩,⟨rfl,rfl⟩,⟨rfl,rfl⟩,⟨rfl,rfl⟩,trivial⟩)) (by (first|exact trivial|exact ⟨⟨rfl,rfl⟩,trivial⟩|exact ⟨⟨rfl,rfl⟩,⟨rfl,rfl⟩,trivial⟩|exact ⟨⟨rfl,rfl⟩,⟨rfl,rfl⟩,⟨rfl,rfl⟩,trivial⟩|exact ⟨⟨rfl,rfl⟩,⟨rfl,rfl⟩,⟨rfl,rfl⟩,⟨rfl,rfl⟩,trivial⟩|exact ⟨⟨rfl,rfl⟩,⟨rfl,rfl⟩,⟨rfl,rfl⟩,⟨rfl,rfl⟩,⟨rfl,rfl⟩,trivial⟩|exact ⟨⟨rfl,rfl⟩,⟨rfl,rfl⟩,⟨rfl,rfl⟩,⟨rfl,rfl⟩,⟨rfl,rfl⟩,⟨rfl,rfl⟩,trivial⟩|exact ⟨⟨rfl,rfl⟩,⟨rfl,rfl⟩,⟨rfl,rfl⟩,⟨rfl,rfl⟩,⟨rfl,rfl⟩,⟨rfl,rfl⟩,⟨rfl,rfl⟩,trivial⟩|exact ⟨⟨rfl,rfl⟩,⟨rfl,rfl⟩,⟨rfl,rfl⟩,⟨rfl,rfl⟩,⟨rfl,rfl⟩,⟨rfl,rfl⟩,⟨rfl,rfl⟩,⟨rfl,rfl⟩,trivial⟩)) rfl (by first|exact .inl rfl|exact .inr (fun _ _=>rfl)) ?_)|(refine PWops.callH rfl rfl (by assumption) (by (first|exact trivial|exact ⟨⟨rfl,rfl⟩,trivial⟩|exact ⟨⟨rfl,rfl⟩,⟨rfl,rfl⟩,trivial⟩|exact ⟨⟨rfl,rfl⟩,⟨rfl,rfl⟩,⟨rfl,rfl⟩,trivial⟩|exact ⟨⟨rfl,rfl⟩,⟨rfl,rfl⟩,⟨rfl,rfl⟩,⟨rfl,rfl⟩,trivial⟩|exact ⟨⟨rfl,rfl⟩,⟨rfl,rfl⟩,⟨rfl,rfl⟩,⟨rfl,rfl⟩,⟨rfl,rfl⟩,trivial⟩|exact ⟨⟨rfl,rfl⟩,⟨rfl,rfl⟩,⟨rfl,rfl⟩,⟨rfl,rfl⟩,⟨rfl,rfl⟩,⟨rfl,rfl⟩,trivial⟩|exact ⟨⟨rfl,rfl⟩,⟨rfl,rfl⟩,⟨rfl,rfl⟩,⟨rfl,rfl⟩,⟨rfl,rfl⟩,⟨rfl,rfl⟩,⟨rfl,rfl⟩,trivial⟩|exact ⟨⟨rfl,rfl⟩,⟨rfl,rfl⟩,⟨rfl,rfl⟩,⟨rfl,rfl⟩,⟨rfl,rfl⟩,⟨rfl,rfl⟩,⟨rfl,rfl⟩,⟨rfl,rfl⟩,trivial⟩)) (by (first|exact trivial|exact ⟨⟨rfl,rfl⟩,trivial⟩|exact ⟨⟨rfl,rfl⟩,⟨rfl,rfl⟩,trivial⟩|exact ⟨⟨rfl,rfl⟩,⟨rfl,rfl⟩,⟨rfl,rfl⟩,trivial⟩|exact ⟨⟨rfl,rfl⟩,⟨rfl,rfl⟩,⟨rfl,rfl⟩,⟨rfl,rfl⟩,trivial⟩|exact ⟨⟨rfl,rfl⟩,⟨rfl,rfl⟩,⟨rfl,rfl⟩,⟨rfl,rfl⟩,⟨rfl,rfl⟩,trivial⟩|exact ⟨⟨rfl,rfl⟩,⟨rfl,rfl⟩,⟨rfl,rfl⟩,⟨rfl,rfl⟩,⟨rfl,rfl⟩,⟨rfl,rfl⟩,trivial⟩|exact ⟨⟨rfl,rfl⟩,⟨rfl,rfl⟩,⟨rfl,rfl⟩,⟨rfl,rfl⟩,⟨rfl,rfl⟩,⟨rfl,rfl⟩,⟨rfl,rfl⟩,trivial⟩|exact ⟨⟨rfl,rfl⟩,⟨rfl,rfl⟩,⟨rfl,rfl⟩,⟨rfl,rfl⟩,⟨rfl,rfl⟩,⟨rfl,rfl⟩,⟨rfl,rfl⟩,⟨rfl,rfl⟩,trivial⟩)) rfl (by first|exact .inl rfl|exact .inr (fun _ _=>rfl)) ?_)|refine PWops.idxZ1 rfl rfl rfl rfl rfl rfl rfl rfl (by (first|omega|(dsimp only;omega))) ?_|refine PWops.idxZ rfl rfl rfl rfl rfl rfl rfl rfl (by (first|omega|(dsimp only;omega))) ?_|refine PWops.ld rfl rfl rfl rfl rfl rfl rfl rfl rfl ?_|refine PWops.slcL rfl rfl rfl rfl rfl rfl rfl rfl (by (first|omega|(dsimp only;omega))) ?_|refine PWops.slcH rfl rfl rfl rfl rfl rfl rfl rfl (by (first|omega|(dsimp only;omega))) ?_|refine PWops.slcRL rfl rfl rfl rfl rfl rfl rfl rfl (by intro;rfl) (by (first|omega|(dsimp only;omega))) ?_|refine PWops.slcRH rfl rfl rfl rfl rfl rfl rfl rfl (by intro;rfl) (by (first|omega|(dsimp only;omega))) ?_|refine PWops.slcM rfl rfl rfl rfl rfl rfl rfl rfl rfl (by (first|omega|(dsimp only;omega))) ?_|refine PWops.ldM rfl rfl rfl rfl rfl rfl rfl (by (first|omega|(dsimp only;omega))) rfl ?_|refine PWops.ldR rfl rfl rfl rfl rfl rfl rfl (by (first|exact secL_len|exact dcellL_len|exact putL_len|(intro;rfl))) (by (first|omega|(dsimp only;omega))) rfl rfl ?_|refine PWops.ldRA rfl rfl rfl rfl rfl rfl (by intro;rfl) (by (first|omega|(dsimp only;omega))) rfl ?_|refine PWops.slcP rfl rfl rfl rfl rfl rfl rfl rfl rfl (by decide) ?_|refine PWops.idxE1 rfl rfl rfl rfl rfl rfl rfl rfl (by (first|omega|(dsimp only;omega))) ?_|refine PWops.ldG rfl rfl rfl rfl rfl rfl (by (first|rfl|exact secL_len _|exact dcellL_len _|exact putL_len _|exact len_map (by assumption)|exact len_map rfl)) (by (first|rfl|exact secL_bare _|exact dcellL_bare _|exact putL_bare _|exact bare_map (fun _=>rfl) _)) ?_|refine PWops.ldMB rfl rfl rfl rfl rfl rfl rfl rfl (by (first|omega|(dsimp only;omega))) rfl rfl ?_|refine PWops.stMB rfl rfl rfl rfl rfl rfl rfl rfl rfl rfl (by (first|omega|(dsimp only;omega))) ?_|refine PWops.idxV rfl rfl rfl rfl rfl rfl rfl rfl (by (first|omega|(dsimp only;omega))) rfl ?_))|(first|((with_reducible refine PW.idd ?_);(first|refine PW.region typeTab_ok (by kernel_rfl) ?_|refine PW.draw typeTab_ok (by kernel_rfl) (by kernel_rfl) (by kernel_rfl) ?_|refine PW.condT rfl ?_|refine PW.condF rfl ?_|refine PW.condTe rfl (by assumption) ?_|refine PW.condFe rfl (by assumption) ?_|refine blockP_other (by decide) ?_))|with_reducible refine blockP_other (by decide) ?_)));exact hHold.out):p:=h ⟨k⟩
theorem wg {p q:Prop} (k:q) (h:Hold q→p:=by intro hHold;(repeat ((with_reducible refine PWops.idd ?_);first|(first|refine PWops.cvI rfl rfl rfl rfl (by (first|omega|(dsimp only;omega))) (by (first|omega|(dsimp only;omega))) rfl ?_|refine PWops.stepA rfl ?_|refine PWops.doneI rfl ?_|refine PWops.boolK true rfl rfl rfl rfl (by (first|rfl|assumption|(simp only [decide_eq_true_eq,decide_eq_false_iff_not,bne_iff_ne,beq_iff_eq,beq_eq_false_iff_ne,bne_eq_false_iff_eq,ne_eq];omega))) rfl ?_|refine PWops.boolK false rfl rfl rfl rfl (by (first|rfl|assumption|(simp only [decide_eq_true_eq,decide_eq_false_iff_not,bne_iff_ne,beq_iff_eq,beq_eq_false_iff_ne,bne_eq_false_iff_eq,ne_eq];omega))) rfl ?_|refine PWops.fitsK rfl rfl rfl rfl (by (first|omega|(dsimp only;omega))) (by (first|omega|(dsimp only;omega))) rfl ?_|refine PWops.remK rfl rfl rfl rfl (by (first|omega|(dsimp only;omega))) rfl ?_|refine PWops.quoK rfl rfl rfl rfl (by (first|omega|(dsimp only;omega))) rfl ?_|refine PWops.app rfl rfl rfl rfl rfl rfl rfl rfl (by (first|omega|(dsimp only;omega))) (by (first|omega|(dsimp only;omega))) (by first|rfl|exact secL_one _|exact putL_one _|exact one_pint _|exact one_pstr _|exact one_pbyte _|exact one_pattrs _) ?_|refine PWops.app0 rfl rfl rfl rfl rfl rfl rfl rfl (by (first|omega|(dsimp only;omega))) (by (first|omega|(dsimp only;omega))) (by first|rfl|exact secL_one _|exact putL_one _|exact one_pint _|exact one_pstr _|exact one_pbyte _|exact one_pattrs _) ?_|refine PWops.idx1 rfl rfl rfl rfl rfl rfl rfl rfl (by (first|omega|(dsimp only;omega))) ?_|refine PWops.idx rfl rfl rfl rfl rfl rfl rfl rfl (by (first|omega|(dsimp only;omega))) ?_|refine PWops.ld rfl rfl rfl rfl rfl rfl rfl (by assumption) rfl ?_|refine PWops.ldA rfl rfl rfl rfl rfl rfl (by (first|omega|(dsimp only;omega))) (by assumption) ?_|refine PWops.str rfl rfl rfl rfl rfl rfl rfl rfl rfl rfl rfl ?_)|(first|refine PWops.arU rfl rfl rfl rfl rfl rfl ?_|refine PWops.boxA rfl rfl rfl rfl rfl (by (first|rfl|exact secL_one _|exact dcellL_one _|exact putL_one _|exact one_map (fun _=>rfl) _)) (by (first|rfl|exact secL_bare _|exact dcellL_bare _|exact putL_bare _|exact bare_map (fun _=>rfl) _)) ?_|refine PWops.litA rfl rfl rfl rfl rfl rfl rfl (by (first|rfl|exact secL_len _|exact dcellL_len _|exact putL_len _|exact len_map (by assumption)|exact len_map rfl)) rfl rfl rfl (by (first|rfl|exact secL_one _|exact dcellL_one _|exact putL_one _|exact one_map (fun _=>rfl) _)) (by (first|rfl|exact secL_bare _|exact dcellL_bare _|exact putL_bare _|exact bare_map (fun _=>rfl) _)) ?_|refine PWops.shlK rfl rfl rfl rfl rfl rfl (by (first|omega|(dsimp only;omega)|decide)) ?_|refine PWops.shrK rfl rfl rfl rfl rfl rfl (by (first|omega|(dsimp only;omega)|decide)) ?_|refine PWops.ldBC rfl rfl rfl rfl rfl rfl rfl rfl (by (first|exact secL_len|exact dcellL_len|exact putL_len|(intro;rfl))) (by (first|omega|(dsimp only;omega))) (by (first|rfl|exact dcellL_64 _)) rfl ?_|refine PWops.ldRB rfl rfl rfl rfl rfl rfl (by (first|exact secL_len|exact dcellL_len|exact putL_len|(intro;rfl))) (by (first|omega|(dsimp only;omega))) (by (first|exact secL_bare|exact dcellL_bare|exact putL_bare|(intro;rfl))) ?_|refine PWops.ldSec rfl rfl rfl rfl rfl rfl rfl (by first|with_reducible rfl|with_reducible exact dC_flat _) (by rfl) (by (first|omega|(dsimp only;omega))) ?_|refine PWops.ldBR rfl rfl rfl rfl rfl rfl rfl (by (first|exact secL_len|exact dcellL_len|exact putL_len|(intro;rfl))) (by (first|omega|(dsimp only;omega))) (by (first|exact secL_bare _|exact dcellL_bare _|exact putL_bare _|rfl)) ?_|refine PWops.lkp rfl rfl rfl rfl rfl rfl rfl rfl rfl rfl rfl (by assumption) ?_|refine PWops.ldAll rfl rfl rfl rfl rfl rfl rfl (by (first|rfl|exact secL_len _|exact dcellL_len _|exact putL_len _|exact len_map (by assumption)|exact len_map rfl)) (by (first|rfl|exact secL_bare _|exact dcellL_bare _|exact putL_bare _|exact bare_map (fun _=>rfl) _)) ?_|refine PWops.stAll rfl rfl rfl rfl rfl rfl rfl rfl rfl (by (first|rfl|exact secL_len _|exact dcellL_len _|exact putL_len _|exact len_map (by assumption)|exact len_map rfl)) (by (first|rfl|exact secL_len _|exact dcellL_len _|exact putL_len _|exact len_map (by assumption)|exact len_map rfl)) (by (first|rfl|exact secL_one _|exact dcellL_one _|exact putL_one _|exact one_map (fun _=>rfl) _)) (by (first|rfl|exact secL_bare _|exact dcellL_bare _|exact putL_bare _|exact bare_map (fun _=>rfl) _)) ?_|refine PWops.idxM rfl rfl rfl rfl rfl rfl rfl rfl (by (first|omega|(dsimp only;omega))) ?_|refine PWops.idxP1 rfl rfl rfl rfl rfl rfl rfl rfl (by (first|omega|(dsimp only;omega))) ?_|refine PWops.idxP rfl rfl rfl rfl rfl rfl rfl rfl (by (first|omega|(dsimp only;omega))) ?_|(refine PWops.call rfl rfl rfl (by assumption) ?_)|(refine PWops.callR rfl rfl (by assumption) (by (first|exact trivial|exact ⟨⟨rfl,rfl⟩,trivial⟩|exact ⟨⟨rfl,rfl⟩,⟨rfl,rfl⟩,trivial⟩|exact ⟨⟨rfl,rfl⟩,⟨rfl,rfl⟩,⟨rfl,rfl⟩,trivial⟩|exact ⟨⟨rfl,rfl⟩,⟨rfl,rfl⟩,⟨rfl,rfl⟩,⟨rfl,rfl⟩,trivial⟩|exact ⟨⟨rfl,rfl⟩,⟨rfl,rfl⟩,⟨rfl,rfl⟩,⟨rfl,rfl⟩,⟨rfl,rfl⟩,trivial⟩|exact ⟨⟨rfl,rfl⟩,⟨rfl,rfl⟩,⟨rfl,rfl⟩,⟨rfl,rfl⟩,⟨rfl,rfl⟩,⟨rfl,rfl⟩,trivial⟩|exact ⟨⟨rfl,rfl⟩,⟨rfl,rfl⟩,⟨rfl,rfl⟩,⟨rfl,rfl⟩,⟨rfl,rfl⟩,⟨rfl,rfl⟩,⟨rfl,rfl⟩,trivial⟩|exact ⟨⟨rfl,rfl⟩,⟨rfl,rfl⟩,⟨rfl,rfl⟩,⟨rfl,rfl⟩,⟨rfl,rfl⟩,⟨rfl,rfl⟩,⟨rfl,rfl⟩,⟨rfl,rfl⟩,trivial⟩)) (by (first|exact trivial|exact ⟨⟨rfl,rfl⟩,trivial⟩|exact ⟨⟨rfl,rfl⟩,⟨rfl,rfl⟩,trivial⟩|exact ⟨⟨rfl,rfl⟩,⟨rfl,rfl⟩,⟨rfl,rfl⟩,trivial⟩|exact ⟨⟨rfl,rfl⟩,⟨rfl,rfl⟩,⟨rfl,rfl⟩,⟨rfl,rfl⟩,trivial⟩|exact ⟨⟨rfl,rfl⟩,⟨rfl,rfl⟩,⟨rfl,rfl⟩,⟨rfl,rfl⟩,⟨rfl,rfl⟩,trivial⟩|exact ⟨⟨rfl,rfl⟩,⟨rfl,rfl⟩,⟨rfl,rfl⟩,⟨rfl,rfl⟩,⟨rfl,rfl⟩,⟨rfl,rfl⟩,trivial⟩|exact ⟨⟨rfl,rfl⟩,⟨rfl,rfl⟩,⟨rfl,rfl⟩,⟨rfl,rfl⟩,⟨rfl,rfl⟩,⟨rfl,rfl⟩,⟨rfl,rfl⟩,trivial⟩|exact ⟨⟨rfl,rfl⟩,⟨rfl,rfl⟩,⟨rfl,rfl⟩,⟨rfl,rfl⟩,⟨rfl,rfl⟩,⟨rfl,rfl⟩,⟨rfl,rfl⟩,⟨rfl,rfl⟩,trivial⟩)) rfl (by first|exact .inl rfl|exact .inr (fun _ _=>rfl)) ?_)|(refine PWops.callH rfl rfl (by assumption) (by (first|exact trivial|exact ⟨⟨rfl,rfl⟩,trivial⟩|exact ⟨⟨rfl,rfl⟩,⟨rfl,rfl⟩,trivial⟩|exact ⟨⟨rfl,rfl⟩,⟨rfl,rfl⟩,⟨rfl,rfl⟩,trivial⟩|exact ⟨⟨rfl,rfl⟩,⟨rfl,rfl⟩,⟨rfl,rfl⟩,⟨rfl,rfl⟩,trivial⟩|exact ⟨⟨rfl,rfl⟩,⟨rfl,rfl⟩,⟨rfl,rfl⟩,⟨rfl,rfl⟩,⟨rfl,rfl⟩,trivial⟩|exact ⟨⟨rfl,rfl⟩,⟨rfl,rfl⟩,⟨rfl,rfl⟩,⟨rfl,rfl⟩,⟨rfl,rfl⟩,⟨rfl,rfl⟩,trivial⟩|exact ⟨⟨rfl,rfl⟩,⟨rfl,rfl⟩,⟨rfl,rfl⟩,⟨rfl,rfl⟩,⟨rfl,rfl⟩,⟨rfl,rfl⟩,⟨rfl,rfl⟩,trivial⟩|exact ⟨⟨rfl,rfl⟩,⟨rfl,rfl⟩,⟨rfl,rfl⟩,⟨rfl,rfl⟩,⟨rfl,rfl⟩,⟨rfl,rfl⟩,⟨rfl,rfl⟩,⟨rfl,rfl⟩,trivial⟩)) (by (first|exact trivial|exact ⟨⟨rfl,rfl⟩,trivial⟩|exact ⟨⟨rfl,rfl⟩,⟨rfl,rfl⟩,trivial⟩|exact ⟨⟨rfl,rfl⟩,⟨rfl,rfl⟩,⟨rfl,rfl⟩,trivial⟩|exact ⟨⟨rfl,rfl⟩,⟨rfl,rfl⟩,⟨rfl,rfl⟩,⟨rfl,rfl⟩,trivial⟩|exact ⟨⟨rfl,rfl⟩,⟨rfl,rfl⟩,⟨rfl,rfl⟩,⟨rfl,rfl⟩,⟨rfl,rfl⟩,trivial⟩|exact ⟨⟨rfl,rfl⟩,⟨rfl,rfl⟩,⟨rfl,rfl⟩,⟨rfl,rfl⟩,⟨rfl,rfl⟩,⟨rfl,rfl⟩,trivial⟩|exact ⟨⟨rfl,rfl⟩,⟨rfl,rfl⟩,⟨rfl,rfl⟩,⟨rfl,rfl⟩,⟨rfl,rfl⟩,⟨rfl,rfl⟩,⟨rfl,rfl⟩,trivial⟩|exact ⟨⟨rfl,rfl⟩,⟨rfl,rfl⟩,⟨rfl,rfl⟩,⟨rfl,rfl⟩,⟨rfl,rfl⟩,⟨rfl,rfl⟩,⟨rfl,rfl⟩,⟨rfl,rfl⟩,trivial⟩)) rfl (by first|exact .inl rfl|exact .inr (fun _ _=>rfl)) ?_)|refine PWops.idxZ1 rfl rfl rfl rfl rfl rfl rfl rfl (by (first|omega|(dsimp only;omega))) ?_|refine PWops.idxZ rfl rfl rfl rfl rfl rfl rfl rfl (by (first|omega|(dsimp only;omega))) ?_|refine PWops.ld rfl rfl rfl rfl rfl rfl rfl rfl rfl ?_|refine PWops.slcL rfl rfl rfl rfl rfl rfl rfl rfl (by (first|omega|(dsimp only;omega))) ?_|refine PWops.slcH rfl rfl rfl rfl rfl rfl rfl rfl (by (first|omega|(dsimp only;omega))) ?_|refine PWops.slcRL rfl rfl rfl rfl rfl rfl rfl rfl (by intro;rfl) (by (first|omega|(dsimp only;omega))) ?_|refine PWops.slcRH rfl rfl rfl rfl rfl rfl rfl rfl (by intro;rfl) (by (first|omega|(dsimp only;omega))) ?_|refine PWops.slcM rfl rfl rfl rfl rfl rfl rfl rfl rfl (by (first|omega|(dsimp only;omega))) ?_|refine PWops.ldM rfl rfl rfl rfl rfl rfl rfl (by (first|omega|(dsimp only;omega))) rfl ?_|refine PWops.ldR rfl rfl rfl rfl rfl rfl rfl (by (first|exact secL_len|exact dcellL_len|exact putL_len|(intro;rfl))) (by (first|omega|(dsimp only;omega))) rfl rfl ?_|refine PWops.ldRA rfl rfl rfl rfl rfl rfl (by intro;rfl) (by (first|omega|(dsimp only;omega))) rfl ?_|refine PWops.slcP rfl rfl rfl rfl rfl rfl rfl rfl rfl (by decide) ?_|refine PWops.idxE1 rfl rfl rfl rfl rfl rfl rfl rfl (by (first|omega|(dsimp only;omega))) ?_|refine PWops.ldG rfl rfl rfl rfl rfl rfl (by (first|rfl|exact secL_len _|exact dcellL_len _|exact putL_len _|exact len_map (by assumption)|exact len_map rfl)) (by (first|rfl|exact secL_bare _|exact dcellL_bare _|exact putL_bare _|exact bare_map (fun _=>rfl) _)) ?_|refine PWops.ldMB rfl rfl rfl rfl rfl rfl rfl rfl (by (first|omega|(dsimp only;omega))) rfl rfl ?_|refine PWops.stMB rfl rfl rfl rfl rfl rfl rfl rfl rfl rfl (by (first|omega|(dsimp only;omega))) ?_|refine PWops.idxV rfl rfl rfl rfl rfl rfl rfl rfl (by (first|omega|(dsimp only;omega))) rfl ?_)));(repeat (first|(with_reducible first|refine PW.seq ?_|refine PW.block ?_|refine PW.skip ?_|refine PW.exit ?_|refine PW.ret ?_|refine thenP ?_|refine thenP_exit ?_|refine thenP_ret ?_|refine blockP ?_|refine blockP_exit ?_|refine blockP_ret ?_|refine loopP_exit ?_|refine loopP_ret ?_|refine loopU_exit ?_|refine loopU_ret ?_)|(first|((with_reducible refine PW.idd ?_);(first|refine PW.condT rfl ?_|refine PW.condF rfl ?_|refine PW.condTe rfl (by assumption) ?_|refine PW.condFe rfl (by assumption) ?_|refine blockP_other (by decide) ?_))|with_reducible refine blockP_other (by decide) ?_)));exact hHold.out):p:=h ⟨k⟩
theorem sb {p:Prop} (h:p:=by (refine Sub.same ?_;(repeat (first|exact SubR.bot|((with_reducible refine SubR.isp ?_);refine SubR.put ?_ (by exact rq0))|((with_reducible refine SubR.isb ?_);refine SubR.setb ?_ rfl rfl (by exact rl0))|((with_reducible refine SubR.ism ?_);refine SubR.setm ?_ rfl rfl (by (first|exact ⟨rfl,rfl,rfl,rfl,rfl⟩|exact RenM.low (by first|assumption|exact hlowm _|exact hlowm _ _)))))))):p:=h
theorem lw {p:Prop} (h:p:=by (first|exact low_mapI|exact low_mapS|exact low_mapB|assumption|exact hlow _|exact hlow _ _|exact Low.agg _ (low_map (fun _=>Low.val _) _)|(simp [low_pu32,low_pu64,low_val,low_nilsl,low_sl,low_ep,low_agg,low_tup,low_fn,low_pint,low_pstr,low_pbool,low_pints,low_pstrs,low_pbyte,low_pbytes,hlow];done)|(simp [low_pu32,low_pu64,low_val,low_nilsl,low_sl,low_ep,low_agg,low_tup,low_fn,low_pint,low_pstr,low_pbool,low_pints,low_pstrs,low_pbyte,low_pbytes];done)|simp [low_pu32,low_pu64,low_val,low_nilsl,low_sl,low_ep,low_agg,low_tup,low_fn,low_pint,low_pstr,low_pbool,low_pints,low_pstrs,low_pbyte,low_pbytes,low_pattrs,low_pdefs,low_pschema,low_pentry])):p:=h
theorem ren_eqlow {κ:Nat→Nat} {S:Nat→Prop} {q p:PV} (h:q=p) (hl:Low q):Ren κ S q p:=by subst h;exact .low _ hl
end
end Go.Proofs.YtoamkpgaaanafaaGreat
