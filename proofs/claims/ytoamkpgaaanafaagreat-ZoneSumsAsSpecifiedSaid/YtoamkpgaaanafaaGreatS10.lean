/- Merged: AttrE, AttrF, AttrJ, AttrK, Hu, StrA, StrB, PwQ, Row13, PwQ2. -/
import Derived.Laws.BytesString
import Derived.Test.YtoamkpgaaanafaaGreatS1
import Derived.Test.YtoamkpgaaanafaaGreatS7
import Derived.Test.YtoamkpgaaanafaaGreatS8
import Derived.Test.YtoamkpgaaanafaaGreatS9
/- Walks: def, Check of attr. -/
namespace Go.Proofs.YtoamkpgaaanafaaGreat
set_option linter.unusedSimpArgs false
set_option linter.unusedVariables false
set_option linter.unnecessarySimpa false
open Go.RowKit
theorem flat_get {α:Type} (k:Nat):∀(rows:List (List α)),(∀r∈rows,r.length=k)→∀(i j:Nat) (r:List α) (u:α),rows[i]? = some r→r[j]? = some u→rows.flatten[i * k+j]? = some u
 | [],_,i,j,r,u,h,_=>by simp at h
 |x :: xs,hk,0,j,r,u,h,hu=>by
  simp at h;subst h
  have hj:j < x.length:=(List.getElem?_eq_some_iff.1 hu).1
  rw [List.flatten_cons,Nat.zero_mul,Nat.zero_add,List.getElem?_append_left hj]
  exact hu
 |x :: xs,hk,i+1,j,r,u,h,hu=>by
  have hx:=hk x (by simp)
  rw [List.flatten_cons,List.getElem?_append_right (by rw [hx,Nat.succ_mul];omega),hx]
  have e:(i+1) * k+j - k=i * k+j:=by rw [Nat.succ_mul];omega
  rw [e]
  exact flat_get k xs (fun r hr=>hk r (by simp [hr])) i j r u (by simpa using h) hu
theorem RdS.lit (w:World) (k:Nat) (rows:List (List Value)) (hk:∀r∈rows,r.length=k) (T:TypeId) (hm:rows.length≤maxLen) :
  RdS (w.alloc (.cells rows.flatten.toArray T)) (.slice (some ⟨w.heap.size,0,none⟩) rows.length rows.length) k rows:=by
 refine ⟨_,_,w.heap.size,0,rfl,Nat.le_refl _,hm,fun _=>rfl,fun i j r u hr hu=>?_⟩
 have:=flat_get k rows hk i j r u hr hu
 rw [←this]
 simp [cell_of_row _ _ _ _ _ (0,0) (heap_alloc_new w (.cells rows.flatten.toArray T))]
theorem Rules.lit (w:World) (rs:List Rule) (T:TypeId) (hm:rs.length≤1000):Rules (w.alloc (.cells (rs.map ruleC).flatten.toArray T)) (.slice (some ⟨w.heap.size,0,none⟩) rs.length rs.length) rs:=by
 have:=RdS.lit w 2 (rs.map ruleC) (by intro r hr;obtain ⟨x,_,rfl⟩:=List.mem_map.1 hr;rfl) T (by simp [maxLen];omega)
 simpa [Rules] using this
theorem Rules.mk {w:World} {g n:Nat} {T:TypeId} {cs:Array Value} (rs:List Rule) (hm:rs.length≤1000) (hg:g=w.heap.size) (hn:n=rs.length) (hcs:cs=(rs.map ruleC).flatten.toArray) :
  Rules (w.alloc (.cells cs T)) (.slice (some ⟨g,0,none⟩) n n) rs:=by
 subst hg hn hcs
 exact Rules.lit w rs T hm
def defA (d:PDef) (bf:ByteArray):List (Bool×Int) := [(!nameB d.name,5),(leqB d.name bf,6),(kindBad d,130)]
def defBI (d:PDef):List (Bool×Int) := [(rangeBad d,131),(decide (0 < d.words.length),3)]
def defBW (d:PDef):List (Bool×Int) := [(formBad d,3),(manyBad d,2),(d.words.any fun s => !nameB s,5),(!riseB d.words,6)]
theorem defE_bad (d:PDef) (bf:ByteArray) (h:firstE (defA d bf)≠0):defE d bf=firstE (defA d bf):=by
 unfold defE
 revert h
 simp only [defA,firstE,kindBad]
 cases nameB d.name<;>cases leqB d.name bf<;>simp<;>(try (intro h1 h2;rw [if_neg h1,if_neg h2,if_pos ⟨h1,h2⟩]))
theorem defE_int (d:PDef) (bf:ByteArray) (h:firstE (defA d bf)=0) (hk:d.kind=1):defE d bf=firstE (defBI d):=by
 unfold defE
 revert h
 simp only [defA,firstE,kindBad,defBI,rangeBad]
 cases nameB d.name<;>cases leqB d.name bf<;>simp [hk]
theorem defE_word (d:PDef) (bf:ByteArray) (h:firstE (defA d bf)=0) (hk:d.kind≠1):defE d bf=firstE (defBW d):=by
 unfold defE
 revert h
 simp only [defA,firstE,kindBad,defBW,formBad,manyBad,wordsE]
 cases nameB d.name<;>cases leqB d.name bf<;>simp [hk]
 intro h2'
 cases riseB d.words<;>simp [h2']
theorem DefAt.box (w:World) (d:PDef) (wv:Value) (T:TypeId):DefAt (w.alloc (.cells #[.string d.name, .int .i64 d.kind, .int .i64 d.lo, .int .i64 d.hi,wv] T)) w.heap.size 0 d wv:=by
 refine ⟨?_,?_,?_,?_,?_⟩<;>simp
theorem below_two (w:World) (o p:Obj):Below w.heap.size w ((w.alloc o).alloc p):=(below_alloc w o).trans ((below_alloc _ p).mono (below_alloc w o).size)
theorem below_three (w:World) (o p q:Obj):Below w.heap.size w (((w.alloc o).alloc p).alloc q):=(below_two w o p).trans ((below_alloc _ q).mono (below_two w o p).size)
theorem blift {w w1 w2:World} (h:Below w.heap.size w w1) (h2:Below w1.heap.size w1 w2):Below w.heap.size w w2:=h.trans (h2.mono h.size)
def EnvD (d:PDef) (wv:Value) (bf:ByteArray) (g h:Nat) (w:World):Prop:=DefAt w g 0 d wv∧Strs w wv d.words∧w.cell? ⟨h,0,none⟩=some (.string bf)
theorem EnvD.below {d:PDef} {wv:Value} {bf:ByteArray} {g h:Nat} {w w' : World} (e:EnvD d wv bf g h w) (hb:Below w.heap.size w w'):EnvD d wv bf g h w':=
 ⟨e.1.below hb,e.2.1.below hb,below_cell hb e.2.2⟩
def rulesA (d:PDef) (bf:ByteArray) (g h:Nat):List Rule := [⟨213,#[.pointer (some ⟨g,0,none⟩)],!nameB d.name,5⟩,⟨215,#[.pointer (some ⟨g,0,none⟩), .pointer (some ⟨h,0,none⟩)],leqB d.name bf,6⟩,⟨216,#[.pointer (some ⟨g,0,none⟩)],kindBad d,130⟩]
def rulesBI (d:PDef) (g:Nat):List Rule := [⟨217,#[.pointer (some ⟨g,0,none⟩)],rangeBad d,131⟩,⟨218,#[.pointer (some ⟨g,0,none⟩)],decide (0 < d.words.length),3⟩]
def rulesBW (d:PDef) (g:Nat):List Rule := [⟨219,#[.pointer (some ⟨g,0,none⟩)],formBad d,3⟩,⟨220,#[.pointer (some ⟨g,0,none⟩)],manyBad d,2⟩,⟨221,#[.pointer (some ⟨g,0,none⟩)],d.words.any fun s => !nameB s,5⟩,⟨223,#[.pointer (some ⟨g,0,none⟩)],!riseB d.words,6⟩]
theorem runA {d:PDef} {wv:Value} {bf:ByteArray} {g h:Nat} {w:World} (e:EnvD d wv bf g h w) (hs:SmallD d) (v:Value) (hv:Rules w v (rulesA d bf g h)) :
  Calls Tryz.prog 87 #[v] w (RetI w (firstE (defA d bf))):=by
 refine attrFirst v (rulesA d bf g h) w hv (Nat.le_of_ble_eq_true rfl) ?_ ?_
 ·intro r hr
  simp only [rulesA,List.mem_cons,List.not_mem_nil,or_false] at hr
  rcases hr with rfl|rfl|rfl
  ·exact cD1
  ·exact cD2
  ·exact cD3
 ·intro r hr w' hb
  have e':=e.below hb
  simp only [rulesA,List.mem_cons,List.not_mem_nil,or_false] at hr
  rcases hr with rfl|rfl|rfl
  ·exact def1 g d wv w' e'.1 hs.1
  ·exact def2 g h d wv bf w' e'.1 e'.2.2
  ·exact def3 g d wv w' e'.1
theorem runBI {d:PDef} {wv:Value} {bf:ByteArray} {g h:Nat} {w:World} (e:EnvD d wv bf g h w) (hs:SmallD d) (v:Value) (hv:Rules w v (rulesBI d g)) :
  Calls Tryz.prog 87 #[v] w (RetI w (firstE (defBI d))):=by
 refine attrFirst v (rulesBI d g) w hv (Nat.le_of_ble_eq_true rfl) ?_ ?_
 ·intro r hr
  simp only [rulesBI,List.mem_cons,List.not_mem_nil,or_false] at hr
  rcases hr with rfl|rfl
  ·exact cD4
  ·exact cD5
 ·intro r hr w' hb
  have e':=e.below hb
  simp only [rulesBI,List.mem_cons,List.not_mem_nil,or_false] at hr
  rcases hr with rfl|rfl
  ·exact def4 g d wv w' e'.1
  ·exact def5 g d wv w' e'.1 e'.2.1 hs.2.1
theorem runBW {d:PDef} {wv:Value} {bf:ByteArray} {g h:Nat} {w:World} (e:EnvD d wv bf g h w) (hs:SmallD d) (v:Value) (hv:Rules w v (rulesBW d g)) :
  Calls Tryz.prog 87 #[v] w (RetI w (firstE (defBW d))):=by
 refine attrFirst v (rulesBW d g) w hv (Nat.le_of_ble_eq_true rfl) ?_ ?_
 ·intro r hr
  simp only [rulesBW,List.mem_cons,List.not_mem_nil,or_false] at hr
  rcases hr with rfl|rfl|rfl|rfl
  ·exact cD6
  ·exact cD7
  ·exact cD8
  ·exact cD9
 ·intro r hr w' hb
  have e':=e.below hb
  simp only [rulesBW,List.mem_cons,List.not_mem_nil,or_false] at hr
  rcases hr with rfl|rfl|rfl|rfl
  ·exact def6 g d wv w' e'.1
  ·exact def7 g d wv w' e'.1 e'.2.1 hs.2.1
  ·exact def8 g d wv w' e'.1 e'.2.1 hs.2.1 hs.2.2
  ·exact def9 g d wv w' e'.1 e'.2.1 hs.2.1
theorem EnvD.boxes (d:PDef) (wv:Value) (bf:ByteArray) (w:World) (hs:Strs w wv d.words) (o:Obj) :
  EnvD d wv bf w.heap.size (w.heap.size+1) (((w.alloc (.cells #[.string d.name, .int .i64 d.kind, .int .i64 d.lo, .int .i64 d.hi,wv] 77)).alloc (.cells #[.string bf] 9)).alloc o):=by
 refine EnvD.below ⟨(DefAt.box w d wv _).below (below_alloc _ _),hs.below (below_two _ _ _),?_⟩ (below_alloc _ _)
 have:=cell_of_row _ _ 0 _ _ (0,0) (heap_alloc_new (w.alloc (.cells #[.string d.name, .int .i64 d.kind, .int .i64 d.lo, .int .i64 d.hi,wv] 77)) (.cells #[.string bf] 9))
 simpa using this
set_option maxRecDepth 100000 in
set_option maxHeartbeats 1000000 in
theorem attrDef (d:PDef) (wv:Value) (bf:ByteArray) (w:World) (hs:Strs w wv d.words) (hsm:SmallD d) :
  Calls Tryz.prog 132 #[defV d wv, .string bf] w (RetI w (defE d bf)):=by
 have HE:=Lib.hid (EnvD.boxes d wv bf w hs)
 have HS:=Lib.hid hsm
 have HB:=fun o=>below_three w (.cells #[.string d.name, .int .i64 d.kind, .int .i64 d.lo, .int .i64 d.hi,wv] 77) (.cells #[.string bf] 9) o
 have HB:=Lib.hid HB
 clear hs hsm
 unfold defV
 by_cases e1:firstE (defA d bf)=0
 ·have E1:(firstE (defA d bf) != 0)=false:=by simpa using e1
  by_cases hk:d.kind=1
  ·have F:=defE_int d bf e1 hk
   have K:(d.kind == 1)=true:=by simpa using hk
   rw [F]
   clear F e1 hk
   go_enter Tryz.func132,Tryz.ntmps132
   go_wp2_with fail
   refine (runA (HE.out _) HS.out _ (Rules.mk (rulesA d bf _ _) (Nat.le_of_ble_eq_true rfl) (by simp) rfl rfl)).mono ?_
   rintro e w1 ⟨rfl,hb⟩
   have hE:=Lib.hid ((HE.out _).below hb)
   have hB:=Lib.hid (blift (HB.out _) hb)
   clear HE HB hb
   generalize firstE (defA d bf)=x1 at *
   have c1:=hE.out.1.2.1
   go_wp2_with fail
   refine (runBI (hE.out.below (below_alloc _ _)) HS.out _ (Rules.mk (rulesBI d _) (Nat.le_of_ble_eq_true rfl) (by simp) rfl rfl)).mono ?_
   rintro e w2 ⟨rfl,hb⟩
   go_wp2
   go_ret
   exact RetI.mk rfl (blift (blift hB.out (below_alloc _ _)) hb)
  ·have F:=defE_word d bf e1 hk
   have K:(d.kind == 1)=false:=by simpa using hk
   rw [F]
   clear F e1 hk
   go_enter Tryz.func132,Tryz.ntmps132
   go_wp2_with fail
   refine (runA (HE.out _) HS.out _ (Rules.mk (rulesA d bf _ _) (Nat.le_of_ble_eq_true rfl) (by simp) rfl rfl)).mono ?_
   rintro e w1 ⟨rfl,hb⟩
   have hE:=Lib.hid ((HE.out _).below hb)
   have hB:=Lib.hid (blift (HB.out _) hb)
   clear HE HB hb
   generalize firstE (defA d bf)=x1 at *
   have c1:=hE.out.1.2.1
   go_wp2_with fail
   refine (runBW (hE.out.below (below_alloc _ _)) HS.out _ (Rules.mk (rulesBW d _) (Nat.le_of_ble_eq_true rfl) (by simp) rfl rfl)).mono ?_
   rintro e w2 ⟨rfl,hb⟩
   go_wp2
   go_ret
   exact RetI.mk rfl (blift (blift hB.out (below_alloc _ _)) hb)
 ·have F:=defE_bad d bf e1
  have E1:(firstE (defA d bf) != 0)=true:=by simpa using e1
  rw [F]
  clear F e1
  go_enter Tryz.func132,Tryz.ntmps132
  go_wp2_with fail
  refine (runA (HE.out _) HS.out _ (Rules.mk (rulesA d bf _ _) (Nat.le_of_ble_eq_true rfl) (by simp) rfl rfl)).mono ?_
  rintro e w1 ⟨rfl,hb⟩
  have hB:=Lib.hid (blift (HB.out _) hb)
  clear HE HB hb
  generalize firstE (defA d bf)=x1 at *
  go_wp2
  go_ret
  exact RetI.mk rfl hB.out
end Go.Proofs.YtoamkpgaaanafaaGreat

/- Walks: Check of attr. -/
namespace Go.Proofs.YtoamkpgaaanafaaGreat
set_option linter.unusedSimpArgs false
set_option linter.unusedVariables false
set_option linter.unnecessarySimpa false
open Go.RowKit
def SmallS (s:PSchema):Prop:=s.defs.length≤1000∧∀d∈s.defs,SmallD d
def argBad (s:PSchema):Bool:=decide (s.dims < 1) || (decide (32 < s.dims) || (decide (s.metric < 1) || decide (3 < s.metric)))
def chkGo (x:Int) (b:ByteArray) (l:List PDef):Int:=if x≠0 then x else defsE b l
theorem chkGo_drop (l:List PDef) (k:Nat) (b:ByteArray) (d:PDef) (h:l[k]? = some d):chkGo 0 b (l.drop k)=chkGo (defE d b) d.name (l.drop (k+1)):=by
 obtain ⟨hk,rfl⟩:=List.getElem?_eq_some_iff.1 h
 rw [List.drop_eq_getElem_cons (by omega)]
 simp [chkGo,defsE]
theorem chkGo_end (l:List PDef) (k:Nat) (x:Int) (b:ByteArray) (h:l.length≤k):chkGo x b (l.drop k)=x:=by
 rw [List.drop_eq_nil_of_le h]
 simp [chkGo,defsE]
 intro h;exact h.symm
theorem chkGo_bad (x:Int) (b:ByteArray) (l:List PDef) (h:x≠0):chkGo x b l=x:=by simp [chkGo,h]
theorem checkE_chk (s:PSchema):checkE s=chkGo (firstE [(argBad s,1),(decide (16 < s.defs.length),2)]) ByteArray.empty s.defs:=by
 unfold checkE chkGo
 simp only [firstE,argBad,Bool.or_eq_true,decide_eq_true_eq]
 by_cases h:s.dims < 1∨32 < s.dims∨s.metric < 1∨3 < s.metric
 ·simp only [if_pos h];simp
 ·by_cases h2:16 < s.defs.length
  ·simp only [if_neg h,if_pos h2];simp
  ·simp only [if_neg h,if_neg h2];simp
def SchAt (w:World) (g:Nat) (s:PSchema) (dv:Value):Prop:=w.cell? ⟨g,0,none⟩=some (.int .i64 s.dims)∧w.cell? ⟨g,1,none⟩=some (.int .i64 s.metric)∧w.cell? ⟨g,2,none⟩=some dv∧Defs w dv s.defs
theorem SchAt.below {w w' : World} {g:Nat} {s:PSchema} {dv:Value} (h:SchAt w g s dv) (hb:Below w.heap.size w w'):SchAt w' g s dv:=
 ⟨below_cell hb h.1,below_cell hb h.2.1,below_cell hb h.2.2.1,h.2.2.2.below hb⟩
theorem SchAt.box (w:World) (s:PSchema) (dv:Value) (T:TypeId) (h:Defs w dv s.defs):SchAt (w.alloc (.cells #[.int .i64 s.dims, .int .i64 s.metric,dv] T)) w.heap.size s dv:=by
 refine ⟨?_,?_,?_,h.below (below_alloc _ _)⟩<;>simp
theorem check1 (g:Nat) (s:PSchema) (dv:Value) (w:World) (h:SchAt w g s dv):Calls Tryz.prog 130 #[.pointer (some ⟨g,0,none⟩)] w (RetB w (argBad s)):=by
 obtain ⟨c0,c1,c2,-⟩:=h
 cases e:decide (s.dims < 1)<;>cases e2:decide (32 < s.dims)<;>cases e3:decide (s.metric < 1)
 all_goals
  go_enter Tryz.func130,Tryz.ntmps130
  go_wp2
  go_ret
  exact RetB.mk (by simp [argBad,e,e2,e3]) (Below.refl _ _)
theorem check2 (g:Nat) (s:PSchema) (dv:Value) (w:World) (h:SchAt w g s dv) (hl:s.defs.length≤1000):Calls Tryz.prog 131 #[.pointer (some ⟨g,0,none⟩)] w (RetB w (decide (16 < s.defs.length))):=by
 obtain ⟨c0,c1,c2,hd⟩:=h
 obtain ⟨a,cap,b,off,rfl,-⟩:=hd.open
 have e:decide ((16:Int) < (s.defs.length:Int))=decide (16 < s.defs.length):=by rw [Bool.eq_iff_iff];simp only [decide_eq_true_eq];omega
 have E:=Lib.hid e
 clear e
 go_enter Tryz.func131,Tryz.ntmps131
 go_wp2
 go_ret
 exact RetB.mk E.out (Below.refl _ _)
theorem cC1:CallOk 130:=fun _ _=>by kernel_rfl
theorem cC2:CallOk 131:=fun _ _=>by kernel_rfl
def rulesC (s:PSchema) (g:Nat):List Rule := [⟨130,#[.pointer (some ⟨g,0,none⟩)],argBad s,1⟩,⟨131,#[.pointer (some ⟨g,0,none⟩)],decide (16 < s.defs.length),2⟩]
theorem runC {s:PSchema} {dv:Value} {g:Nat} {w:World} (e:SchAt w g s dv) (hl:s.defs.length≤1000) (v:Value) (hv:Rules w v (rulesC s g)) :
  Calls Tryz.prog 87 #[v] w (RetI w (firstE [(argBad s,1),(decide (16 < s.defs.length),2)])):=by
 refine attrFirst v (rulesC s g) w hv (Nat.le_of_ble_eq_true rfl) ?_ ?_
 ·intro r hr
  simp only [rulesC,List.mem_cons,List.not_mem_nil,or_false] at hr
  rcases hr with rfl|rfl
  ·exact cC1
  ·exact cC2
 ·intro r hr w' hb
  have e':=e.below hb
  simp only [rulesC,List.mem_cons,List.not_mem_nil,or_false] at hr
  rcases hr with rfl|rfl
  ·exact check1 g s dv w' e'
  ·exact check2 g s dv w' e' hl
set_option maxRecDepth 100000 in
set_option maxHeartbeats 1000000 in
theorem attrCheck (v:Value) (s:PSchema) (w:World) (hv:SchemaV w v s) (hsm:SmallS s):Calls Tryz.prog 54 #[v] w (RetI w (checkE s)):=by
 obtain ⟨dv,rfl,hd⟩:=hv
 obtain ⟨s1,s2⟩:=hsm
 have S2:Hid (∀d∈s.defs,SmallD d):=s2
 have HB:=Lib.hid (SchAt.box w s dv 24 hd)
 have hw0:Below w.heap.size w (w.alloc (.cells #[.int .i64 s.dims, .int .i64 s.metric,dv] 24)):=below_alloc _ _
 have C:=Lib.hid (checkE_chk s)
 clear s2 hd
 go_enter Tryz.func54,Tryz.ntmps54
 go_wp2_with fail
 generalize hw:w.alloc (.cells #[.int .i64 s.dims, .int .i64 s.metric,dv] 24)=w0 at *
 have hsz:w.heap.size+1=w0.heap.size:=by rw [←hw];simp
 clear hw
 refine (runC (HB.out.below (below_alloc _ _)) (by omega) _ (Rules.mk (rulesC s _) (Nat.le_of_ble_eq_true rfl) (by rw [←hsz]) rfl rfl)).mono ?_
 rintro e w1 ⟨rfl,hb⟩
 have hb1:=blift (below_alloc _ _) hb
 clear hb hsz
 generalize firstE [(argBad s,1),(decide (16 < s.defs.length),2)]=x1 at *
 have ha:=HB.out.2.2.2.open
 go_wp2
 go_loopw [3,4,5] (fun e b i wr=>∃(k:Nat) (x:Int) (bf:ByteArray),k≤s.defs.length∧i = .int .i64 k∧e = .int .i64 x∧b = .string bf∧Below w0.heap.size w0 wr∧Hid (checkE s=chkGo x bf (s.defs.drop k))) (fun _ _ i _=>s.defs.length - (intOf i).toNat)
 case atStart=>exact ⟨0,x1,_,by omega,rfl,rfl,rfl,hb1,C.out⟩
 case round=>
  obtain ⟨k,x,bf,hk,rfl,rfl,rfl,hb,hh⟩:=hrel
  obtain ⟨a,cap,b,off,rfl,-,-,ha,hc⟩:=ha
  have HS:=Lib.hid (HB.out.below hb)
  have c2:=HS.out.2.2.1
  by_cases hlt:k < s.defs.length
  ·by_cases hx:x=0
   ·subst hx
    obtain ⟨y,hy⟩:=ints_get s.defs k (by omega)
    obtain ⟨wv,hd,hs⟩:=hc.out k y hy
    obtain ⟨d0,d1,d2,d3,d4⟩:=hd.below hb
    have H:=Lib.hid (chkGo_drop s.defs k bf y hy)
    have hs':=Lib.hid (hs.below hb)
    have hsm:=Lib.hid (S2.out y (List.mem_of_getElem? hy))
    obtain rfl:=ha (by omega)
    clear hs hd hc hy ha
    go_wp2_with fail
    refine (attrDef y wv bf _ hs'.out hsm.out).mono ?_
    rintro e w2 ⟨rfl,hb2⟩
    have d0':=below_cell hb2 d0
    have c2':=below_cell hb2 c2
    have hb3:=blift hb hb2
    clear hb hb2 d0 d1 d2 d3 d4 c2 hs'
    go_wp2
    go_roundw
    case rel=>exact ⟨k+1,_,_,by omega,by go_num,rfl,rfl,hb3,by rw [Hid,hh.out,H.out]⟩
    case measure=>simp [intOf];omega
   ·have hx' : (x == 0)=false:=by simpa using hx
    have F:=Lib.hid (chkGo_bad x bf (s.defs.drop k) hx)
    clear hx hc ha
    go_wp2
    go_ret
    exact RetI.mk (by rw [hh.out,F.out]) (blift hw0 hb)
  ·have F:=Lib.hid (chkGo_end s.defs k x bf (by omega))
   clear hc ha
   go_wp2
   go_ret
   exact RetI.mk (by rw [hh.out,F.out]) (blift hw0 hb)
end Go.Proofs.YtoamkpgaaanafaaGreat

/- Walks: FewDefs, Few, Find of antiquaryref13. -/
namespace Go.Proofs.YtoamkpgaaanafaaGreat
set_option linter.unusedSimpArgs false
set_option linter.unusedVariables false
set_option linter.unnecessarySimpa false
open Go.RowKit
def FewRet (w:World) (p:Prop) (e:Ending) (w' : World):Prop:=∃b:Bool,e = .returned (.bool b)∧(b=true→p)∧Below w.heap.size w w'
theorem FewRet.mk {w w' : World} {p:Prop} {b:Bool} (h:b=true→p) (hb:Below w.heap.size w w'):FewRet w p (.returned (.bool b)) w':=⟨b,rfl,h,hb⟩
def FewD (d:PDef):Prop:=d.words.length≤60∧d.name.size≤100∧∀s∈d.words,s.size≤100
def FewS (s:PSchema):Prop:=s.defs.length≤20∧∀d∈s.defs,FewD d
theorem FewS.small {s:PSchema} (h:FewS s):SmallS s:=⟨by have:=h.1;omega,fun d hd=>⟨by have:=(h.2 d hd).2.1;omega,by have:=(h.2 d hd).1;omega,fun x hx=>by have:=(h.2 d hd).2.2 x hx;omega⟩⟩
def EntAt (w:World) (g:Nat) (e:PEntry) (vv av:Value):Prop:=
 w.cell? ⟨g,0,none⟩=some (.int .i64 e.id)∧w.cell? ⟨g,1,none⟩=some (.int .i64 e.ver)∧w.cell? ⟨g,2,none⟩=some (.int .i64 e.owner)∧w.cell? ⟨g,3,none⟩=some (.int .i64 e.filed) ∧
 w.cell? ⟨g,4,none⟩=some (.int .i64 e.frm)∧w.cell? ⟨g,5,none⟩=some (.int .i64 e.to)∧w.cell? ⟨g,6,none⟩=some (.int .i64 e.born)∧w.cell? ⟨g,7,none⟩=some vv∧w.cell? ⟨g,8,none⟩=some av∧Ints w vv e.vec∧Attrs w av e.attrs
theorem EntAt.below {w w' : World} {g:Nat} {e:PEntry} {vv av:Value} (h:EntAt w g e vv av) (hb:Below w.heap.size w w'):EntAt w' g e vv av:=by
 obtain ⟨h0,h1,h2,h3,h4,h5,h6,h7,h8,h9,h10⟩:=h
 exact ⟨below_cell hb h0,below_cell hb h1,below_cell hb h2,below_cell hb h3,below_cell hb h4,below_cell hb h5,below_cell hb h6,below_cell hb h7,below_cell hb h8,h9.below hb,h10.below hb⟩
theorem EntAt.box (w:World) (e:PEntry) (vv av:Value) (T:TypeId) (h:Ints w vv e.vec) (h2:Attrs w av e.attrs):EntAt (w.alloc (.cells #[.int .i64 e.id, .int .i64 e.ver, .int .i64 e.owner, .int .i64 e.filed, .int .i64 e.frm, .int .i64 e.to, .int .i64 e.born,vv,av] T)) w.heap.size e vv av:=by
 refine ⟨?_,?_,?_,?_,?_,?_,?_,?_,?_,h.below (below_alloc _ _),h2.below (below_alloc _ _)⟩<;>simp
set_option maxRecDepth 100000 in
set_option maxHeartbeats 1000000 in
theorem refFind (v:Value) (s:PSchema) (nm:ByteArray) (w:World) (hv:SchemaV w v s) (hl:s.defs.length≤1000):Calls Tryz.prog 83 #[v, .string nm] w (RetI w (findI s.defs nm)):=by
 obtain ⟨dv,rfl,hd⟩:=hv
 have HB:=Lib.hid (SchAt.box w s dv 24 hd)
 have hw0:Below w.heap.size w (w.alloc (.cells #[.int .i64 s.dims, .int .i64 s.metric,dv] 24)):=below_alloc _ _
 obtain ⟨a,cap,b,off,rfl,hcap,hm,ha,hc⟩:=HB.out.2.2.2.open
 clear hd
 go_enter Tryz.func83,Tryz.ntmps83
 go_wp2
 generalize hw:w.alloc (.cells #[.int .i64 s.dims, .int .i64 s.metric, .slice a s.defs.length cap] 24)=w0 at *
 clear hw
 have c2:=HB.out.2.2.1
 go_loop [5] (fun i=>∃k:Nat,k≤s.defs.length∧i = .int .i64 k∧Hid (findI s.defs nm=idxGo ((s.defs.map fun d=>eqB d.name nm).drop k) k)) (fun i=>s.defs.length - (intOf i).toNat)
 case atStart=>exact ⟨0,by omega,rfl,rfl⟩
 case round=>
  obtain ⟨k,hk,rfl,hh⟩:=hrel
  by_cases hlt:k < s.defs.length
  ·obtain ⟨y,hy⟩:=ints_get s.defs k (by omega)
   obtain ⟨wv,⟨d0,d1,d2,d3,d4⟩,-⟩:=hc.out k y hy
   have H:Hid (_=_):=idxGo_drop (s.defs.map fun d=>eqB d.name nm) k (eqB y.name nm) (by simp [hy])
   obtain rfl:=ha (by omega)
   clear hy ha hc
   cases e:eqB y.name nm
   ·have e' : (y.name.toList == nm.toList)=false:=e
    have E:=Lib.hid e
    clear e
    go_wp2
    go_round
    case rel=>exact ⟨k+1,by omega,by go_num,by rw [Hid,hh.out,H.out,E.out];rfl⟩
    case measure=>simp [intOf];omega
   ·have e' : (y.name.toList == nm.toList)=true:=e
    have E:=Lib.hid e
    clear e
    go_wp2
    go_ret
    exact RetI.mk (by rw [hh.out,H.out,E.out];rfl) hw0
  ·clear hc ha
   go_wp2
   go_ret
   exact RetI.mk (by rw [hh.out,idxGo_end _ _ (by simp;omega)]) hw0
end Go.Proofs.YtoamkpgaaanafaaGreat

/- Walks: Value, Get of antiquaryref13; Get of attr. -/
namespace Go.Proofs.YtoamkpgaaanafaaGreat
set_option linter.unusedSimpArgs false
set_option linter.unusedVariables false
set_option linter.unnecessarySimpa false
open Go.RowKit
theorem AttrAt.box (w:World) (a:PAttr) (T:TypeId):AttrAt (w.alloc (.cells #[.string a.name, .int .i64 a.kind, .int .i64 a.n, .string a.s] T)) w.heap.size 0 a:=by
 refine ⟨?_,?_,?_,?_⟩<;>simp
theorem eqB_empty (s:ByteArray):eqB s ByteArray.empty=s.toList.isEmpty:=by
 have e:ByteArray.empty.toList = []:=by unfold ByteArray.toList ByteArray.toList.loop;rfl
 unfold eqB
 rw [e]
 cases h:s.toList<;>rfl
set_option maxRecDepth 100000 in
set_option maxHeartbeats 1000000 in
theorem refValue (d:PDef) (wv:Value) (a:PAttr) (w:World) (hs:Strs w wv d.words) (hl:d.words.length≤1000) :
  Calls Tryz.prog 186 #[defV d wv,attrV a] w (RetI w (valueE d a)):=by
 have HS:=Lib.hid (hs.below (below_two w (.cells #[.string d.name, .int .i64 d.kind, .int .i64 d.lo, .int .i64 d.hi,wv] 77) (.cells #[.string a.name, .int .i64 a.kind, .int .i64 a.n, .string a.s] 79)))
 have hw0:=below_two w (.cells #[.string d.name, .int .i64 d.kind, .int .i64 d.lo, .int .i64 d.hi,wv] 77) (.cells #[.string a.name, .int .i64 a.kind, .int .i64 a.n, .string a.s] 79)
 clear hs
 unfold defV attrV
 by_cases h1:a.kind=d.kind
 ·have h1' : (a.kind != d.kind)=false:=by simp [h1]
  by_cases h2:a.kind=1
  ·have h2' : (a.kind == 1)=true:=by simp [h2]
   cases h3:a.s.toList.isEmpty
   ·have F:=Lib.hid (show valueE d a=3 by rw [valueE,if_neg (by simp [h1]),if_pos h2,if_pos (by rw [eqB_empty,h3])])
    clear h1 h2
    go_enter Tryz.func186,Tryz.ntmps186
    go_wp2
    go_ret
    exact RetI.mk F.out.symm hw0
   ·have F:=Lib.hid (show valueE d a=if a.n < d.lo∨d.hi < a.n then 131 else 0 by rw [valueE,if_neg (by simp [h1]),if_pos h2,if_neg (by rw [eqB_empty,h3];simp)])
    have h3' : a.s.toList = []:=by simpa using h3
    clear h1 h2
    cases r1:decide (a.n < d.lo)<;>cases r2:decide (d.hi < a.n)
    all_goals
     go_enter Tryz.func186,Tryz.ntmps186
     go_wp2
     go_ret
     refine RetI.mk ?_ hw0
     rw [F.out]
     simp at r1 r2
     split<;>first|rfl|omega
  ·have h2' : (a.kind == 1)=false:=by simp [h2]
   by_cases h3:a.n=0
   ·have h3' : (a.n != 0)=false:=by simp [h3]
    have F:=Lib.hid (show valueE d a=if hasB d.words a.s then 0 else 131 by rw [valueE,if_neg (by simp [h1]),if_neg h2,if_neg (by simp [h3])])
    clear h1 h2 h3
    cases h4:hasB d.words a.s
    all_goals
     have H4:=Lib.hid h4
     clear h4
     go_enter Tryz.func186,Tryz.ntmps186
     go_wp2_with fail
     refine (refHasS _ d.words a.s _ HS.out (by omega)).mono ?_
     rintro e w' ⟨rfl,rfl⟩
     rw [H4.out]
     go_wp2
     go_ret
     exact RetI.mk (by rw [F.out,H4.out];rfl) hw0
   ·have h3' : (a.n != 0)=true:=by simp [h3]
    have F:=Lib.hid (show valueE d a=3 by rw [valueE,if_neg (by simp [h1]),if_neg h2,if_pos h3])
    clear h1 h2 h3
    go_enter Tryz.func186,Tryz.ntmps186
    go_wp2
    go_ret
    exact RetI.mk F.out.symm hw0
 ·have h1' : (a.kind != d.kind)=true:=by simp [h1]
  have F:=Lib.hid (show valueE d a=130 by rw [valueE,if_pos h1])
  clear h1
  go_enter Tryz.func186,Tryz.ntmps186
  go_wp2
  go_ret
  exact RetI.mk F.out.symm hw0
theorem getA_drop (l:List PAttr) (nm:ByteArray) (k:Nat) (a:PAttr) (h:l[k]? = some a):getA (l.drop k) nm=if eqB a.name nm then (a,true) else getA (l.drop (k+1)) nm:=by
 obtain ⟨hk,rfl⟩:=List.getElem?_eq_some_iff.1 h
 rw [List.drop_eq_getElem_cons (by omega),getA]
theorem getA_end (l:List PAttr) (nm:ByteArray) (k:Nat) (h:l.length≤k):getA (l.drop k) nm=(zeroA,false):=by
 rw [List.drop_eq_nil_of_le h,getA]
def GotRet (w:World) (r:PAttr×Bool) (e:Ending) (w' : World):Prop:=
 e = .returned (.agg #[.string r.1.name, .int .i64 r.1.kind, .int .i64 r.1.n, .string r.1.s, .bool r.2])∧Below w.heap.size w w'
theorem GotRet.mk {w w' : World} {r:PAttr×Bool} {a:PAttr} {b:Bool} (h:r=(a,b)) (hb:Below w.heap.size w w'):GotRet w r (.returned (.agg #[.string a.name, .int .i64 a.kind, .int .i64 a.n, .string a.s, .bool b])) w':=by
 subst h;exact ⟨rfl,hb⟩
set_option maxRecDepth 100000 in
set_option maxHeartbeats 1000000 in
theorem refGet (v:Value) (l:List PAttr) (nm:ByteArray) (w:World) (hv:Attrs w v l) (hl:l.length≤1000000) :
  Calls Tryz.prog 143 #[v, .string nm] w (GotRet w (getA l nm)):=by
 obtain ⟨a,cap,b,off,rfl,hcap,hm,ha,hc⟩:=hv.open
 clear hv
 go_enter Tryz.func143,Tryz.ntmps143
 go_wp2
 go_loop [5] (fun i=>∃k:Nat,k≤l.length∧i = .int .i64 k∧Hid (getA l nm=getA (l.drop k) nm)) (fun i=>l.length - (intOf i).toNat)
 case atStart=>exact ⟨0,by omega,rfl,rfl⟩
 case round=>
  obtain ⟨k,hk,rfl,hh⟩:=hrel
  by_cases hlt:k < l.length
  ·obtain ⟨y,hy⟩:=ints_get l k (by omega)
   obtain ⟨c0,c1,c2,c3⟩:=hc.out k y hy
   obtain rfl:=ha (by omega)
   have hbl:b < w.heap.size:=World.block_lt_of_cell? _ _ c0
   have H:=Lib.hid (getA_drop l nm k y hy)
   clear ha hy hc
   cases e:eqB y.name nm
   ·have e' : (y.name.toList == nm.toList)=false:=e
    have E:=Lib.hid e
    clear e
    go_wp2
    go_round
    case rel=>exact ⟨k+1,by omega,by go_num,by rw [Hid,hh.out,H.out,E.out];rfl⟩
    case measure=>simp [intOf];omega
   ·have e' : (y.name.toList == nm.toList)=true:=e
    have E:=Lib.hid e
    clear e
    go_wp2
    refine bodyPost_ret (v:=.agg #[.string y.name, .int .i64 y.kind, .int .i64 y.n, .string y.s, .bool true]) (by simp [results,Tryz.results143,go_sem]) rfl (GotRet.mk ?_ (below_alloc _ _))
    rw [hh.out,H.out,E.out];rfl
  ·clear hc ha
   go_wp2
   refine bodyPost_ret (v:=.agg #[.string ⟨#[]⟩, .int .i64 0, .int .i64 0, .string ⟨#[]⟩, .bool false]) (by simp [results,Tryz.results143,go_sem]) rfl (GotRet.mk (a:=zeroA) ?_ (below_alloc _ _))
   rw [hh.out,getA_end _ _ _ (by omega)]
theorem get1 (g:Nat) (x:PAttr) (nm:ByteArray) (w:World) (c5:w.cell? ⟨g,0,none⟩=some (.string nm)) :
  Calls Tryz.prog 98 #[attrV x, .pointer (some ⟨g,0,none⟩)] w (RetB w (eqB x.name nm)):=by
 have hlt:=World.block_lt_of_cell? _ _ c5
 unfold attrV
 go_enter Tryz.func98,Tryz.ntmps98
 go_wp2
 go_ret
 exact RetB.mk rfl (below_alloc _ _)
theorem cG1:CallOk 98:=fun _ _=>by kernel_rfl
theorem getA_idx (l:List PAttr) (nm:ByteArray):(idxB (l.map fun x=>eqB x.name nm) = -1∧getA l nm=(zeroA,false)) ∨
  ∃(k:Nat) (a:PAttr),idxB (l.map fun x=>eqB x.name nm)=k∧l[k]? = some a∧getA l nm=(a,true):=by
 have key:∀(l:List PAttr) (j:Nat),(idxGo (l.map fun x=>eqB x.name nm) j = -1∧getA l nm=(zeroA,false)) ∨
   ∃(k:Nat) (a:PAttr),idxGo (l.map fun x=>eqB x.name nm) j=((j+k:Nat):Int)∧l[k]? = some a∧getA l nm=(a,true):=by
  intro l
  induction l with
  |nil=>intro j;exact .inl ⟨rfl,rfl⟩
  |cons x r ih=>
   intro j
   simp only [List.map_cons,idxGo,getA]
   cases e:eqB x.name nm
   ·rcases ih (j+1) with ⟨h1,h2⟩|⟨k,a,h1,h2,h3⟩
    ·left;simp only [Bool.false_eq_true,if_false];exact ⟨h1,h2⟩
    ·right;refine ⟨k+1,a,?_,h2,?_⟩
     ·simp only [Bool.false_eq_true,if_false]
      have:(((j+1:Nat):Int))=(j:Int)+1:=by omega
      rw [this] at h1;rw [h1];omega
     ·simpa using h3
   ·right;exact ⟨0,x,by simp,by simp,by simp⟩
 rcases key l 0 with h|⟨k,a,h1,h2,h3⟩
 ·exact .inl h
 ·exact .inr ⟨k,a,by simpa [idxB] using h1,h2,h3⟩
def GetRet (w:World) (r:PAttr×Bool) (e:Ending) (w' : World):Prop:=
 e = .returned (.tuple #[attrV r.1, .bool r.2])∧Below w.heap.size w w'
theorem GetRet.mk {w w' : World} {r:PAttr×Bool} {a:PAttr} {b:Bool} (h:r=(a,b)) (hb:Below w.heap.size w w'):GetRet w r (.returned (.tuple #[.agg #[.string a.name, .int .i64 a.kind, .int .i64 a.n, .string a.s], .bool b])) w':=by
 subst h;exact ⟨rfl,hb⟩
set_option maxRecDepth 100000 in
set_option maxHeartbeats 1000000 in
theorem attrGet (v:Value) (l:List PAttr) (nm:ByteArray) (w:World) (hv:Attrs w v l) (hl:l.length≤1000000) :
  Calls Tryz.prog 37 #[v, .string nm] w (GetRet w (getA l nm)):=by
 have HV:=Lib.hid hv
 obtain ⟨a,cap,b,off,rfl,hcap,hm,ha,hc⟩:=hv.open
 clear hv
 go_enter Tryz.func37,Tryz.ntmps37
 go_wp2_with fail
 refine (indexAttr _ l _ _ (fun x=>eqB x.name nm) _ (HV.out.below (below_two _ _ _)) (by omega) cG1 (fun x hx w' hb=>get1 _ x nm w' (below_cell ((blift (below_alloc _ _) hb)) (by simp)))).mono ?_
 rintro e w1 ⟨rfl,hb⟩
 have hb1:=blift (below_two _ _ _) hb
 have r0:∀j,w1.frozen? ⟨w.heap.size+1,j,none⟩=false:=fun j=>by rw [hb.frozen (by simp)];simp
 have r1:w1.cell? ⟨w.heap.size+1,0,none⟩=some (.string ⟨#[]⟩):=below_cell hb (by simp)
 have r2:w1.cell? ⟨w.heap.size+1,1,none⟩=some (.int .i64 0):=below_cell hb (by simp)
 have r3:w1.cell? ⟨w.heap.size+1,2,none⟩=some (.int .i64 0):=below_cell hb (by simp)
 have r4:w1.cell? ⟨w.heap.size+1,3,none⟩=some (.string ⟨#[]⟩):=below_cell hb (by simp)
 clear hb
 rcases getA_idx l nm with ⟨h1,h2⟩|⟨k,x,h1,h2,h3⟩
 ·have H:=Lib.hid h2
  rw [h1]
  clear h1 h2 hc ha
  go_wp2
  refine bodyPost_ret (v:=.tuple #[.agg #[.string ⟨#[]⟩, .int .i64 0, .int .i64 0, .string ⟨#[]⟩], .bool false]) (by simp [results,Tryz.results37,go_sem,r0,r1,r2,r3,r4]) rfl (GetRet.mk (a:=zeroA) H.out ((((hb1.setCell ?_ _).setCell ?_ _).setCell ?_ _).setCell ?_ _))<;>simp
 ·have H:=Lib.hid h3
  have hk:k < l.length:=(List.getElem?_eq_some_iff.1 h2).1
  obtain ⟨c0,c1,c2,c3⟩:=(hc.out k x h2).below hb1
  obtain rfl:=ha (by omega)
  have hbl:b < w.heap.size:=(hc.out k x h2).lt
  rw [h1]
  clear h1 h2 h3 hc ha
  go_wp2
  refine bodyPost_ret (v:=.tuple #[.agg #[.string x.name, .int .i64 x.kind, .int .i64 x.n, .string x.s], .bool true]) (by simp [results,Tryz.results37,go_sem,r0,r1,r2,r3,r4]) rfl (GetRet.mk H.out ((((hb1.setCell ?_ _).setCell ?_ _).setCell ?_ _).setCell ?_ _))<;>simp
end Go.Proofs.YtoamkpgaaanafaaGreat

/- The walks of wire: the bytes of a string. -/
namespace Go.Proofs.YtoamkpgaaanafaaGreat
set_option linter.unusedSimpArgs false
set_option linter.unusedVariables false
set_option linter.unnecessarySimpa false
open Go.RowKit
theorem strCells_eq (s:ByteArray):Lib.strCells s=(bytesL s).map (Value.int .u8):=by
 simp [Lib.strCells,bytesL]
end Go.Proofs.YtoamkpgaaanafaaGreat

/- The walks of wire and antiquaryref01: byte strings, lists of them. -/
namespace Go.Proofs.YtoamkpgaaanafaaGreat
set_option linter.unusedSimpArgs false
set_option linter.unusedVariables false
set_option linter.unnecessarySimpa false
open Go.RowKit
set_option maxRecDepth 100000 in
theorem refBytes (s:ByteArray) (w:World) (hs:s.size≤1000000000):Calls Tryz.prog 212 #[.string s] w (MadeBytes w (strB s)):=by
 have hl0:=intB_len s.size (by omega) (by omega)
 go_enter Tryz.func212,Tryz.ntmps212
 go_wp2_with (first|(at_builtin;refine wp_appendStr (.tmp 5) (.tmp 6) 92 9 5 elemByte rfl rfl Tryz.underlying92 Tryz.underlying9 w.heap.size _ _ s rfl ho1 rfl (by rw [List.length_map];omega) hb1.size ?_;intro v' w' hown' hb')|(go_at_call 211;refine (refInt _ _ (by omega) (by omega)).mono ?_;rintro e w1 ⟨v1,rfl,ho1,hb1⟩))
 go_ret
 exact ⟨_,rfl,by rw [strB,List.map_append,←strCells_eq];exact hown',hb1.trans hb'⟩
theorem StrsOpen {w:World} {v:Value} {l:List ByteArray} (h:Rd w v (l.map Value.string)):∃a cap b off,v = .slice a l.length cap∧l.length≤cap∧cap≤maxLen ∧
  (0 < l.length→a=some ⟨b,off,none⟩)∧Hid (∀j x,l[j]? = some x→w.cell? ⟨b,off+j,none⟩=some (.string x)):=by
 obtain ⟨a,cap,b,off,h1,h2,h3,h4,h5⟩:=h
 simp only [List.length_map] at h1 h2 h4
 exact ⟨a,cap,b,off,h1,h2,h3,h4,fun j x hx=>h5 j _ (by simp [hx])⟩
set_option maxRecDepth 100000 in
set_option maxHeartbeats 1000000 in
theorem refStrings (v:Value) (zs:List ByteArray) (w:World) (hv:Rd w v (zs.map Value.string)) (hf:SmallStrs zs) (hl:zs.length≤1000000):Calls Tryz.prog 129 #[v] w (MadeBytes w (strsB zs)):=by
 obtain ⟨a,cap,b,off,rfl,hcap,hm,ha,hc⟩:=StrsOpen hv
 have HF:=Hid.mk hf
 have hl0:=intB_len zs.length (by omega) (by omega)
 clear hv
 go_enter Tryz.func129,Tryz.ntmps129
 go_wp2_with (go_at_call 211;refine (refInt _ _ (by omega) (by omega)).mono ?_;rintro e w1 ⟨v1,rfl,ho1,hb1⟩)
 go_loopw [3,4] (fun o i wr=>∃k:Nat,k≤zs.length∧i = .int .i64 k∧Own w.heap.size 5 wr o ((intB zs.length ++ ((zs.take k).map strB).flatten).map (Value.int .u8))∧Below w.heap.size w wr) (fun _ i _=>zs.length - (intOf i).toNat)
 case atStart=>exact ⟨0,by omega,rfl,by simpa using ho1,hb1⟩
 case round=>
  obtain ⟨k,hk,rfl,hown,hb⟩:=hrel
  have HB:=Hid.mk hb
  clear hb
  have hb2:=HB.out.size
  by_cases hlt:k < zs.length
  ·obtain ⟨y,hy⟩:=ints_get zs k hlt
   have c1:=below_cell HB.out (hc.out k y hy)
   have y1:=HF.out y (List.mem_of_getElem? hy)
   have hl1:=strB_len y y1
   have hl2:=strs_len (zs.take k) (fun z hz=>HF.out z (List.mem_of_mem_take hz))
   have hl3:(zs.take k).length≤zs.length:=by rw [List.length_take];omega
   obtain rfl:=ha (by omega)
   have T:=Hid.mk (strs_take zs k y hy)
   clear ha hy
   go_wp2_with (first|(at_builtin;refine wp_append (.tmp 14) (.tmp 19) 92 5 1 _ elemByte rfl rfl Tryz.underlying92 w.heap.size _ _ _ _ rfl (hown.kept hb3) rfl ho3.rd (by simp only [List.length_map];omega) (oneCells _ _) (by simp only [List.length_map,List.length_append,maxLen];omega) (by simp only [List.length_map,List.length_append];omega) (by have:=hb3.size;omega) ?_;intro v' w' hown' hb')|(go_at_call 212;refine (refBytes _ _ (by omega)).mono ?_;rintro e w3 ⟨v3,rfl,ho3,hb3⟩))
   go_roundw
   case rel=>exact ⟨k+1,by omega,by go_num,by rw [T.out,←List.append_assoc,List.map_append];exact hown',(HB.out.trans (hb3.mono hb2)).trans hb'⟩
   case measure=>simp [intOf];omega
  ·have e:zs.take k=zs:=List.take_of_length_le (by omega)
   rw [e] at hown
   go_wp2
   go_ret
   exact ⟨_,rfl,hown,HB.out⟩
end Go.Proofs.YtoamkpgaaanafaaGreat

/- The walks of wire and antiquaryref01: byte strings, decoded. -/
namespace Go.Proofs.YtoamkpgaaanafaaGreat
set_option linter.unusedSimpArgs false
set_option linter.unusedVariables false
set_option linter.unnecessarySimpa false
open Go.RowKit
def MadeStrsN (w:World) (r:List ByteArray×Int×Int) (e:Ending) (w' : World):Prop:=
 ∃v,e = .returned (.tuple #[v, .int .i64 r.2.1, .int .i64 r.2.2])∧Own w.heap.size 9 w' v (r.1.map Value.string)∧Below w.heap.size w w'
theorem MadeStrsN.mk {w w' : World} {r:List ByteArray×Int×Int} {l:List ByteArray} {x y:Int} {v:Value} (h:r=(l,x,y)) (ho:Own w.heap.size 9 w' v (l.map Value.string)) (hb:Below w.heap.size w w') :
  MadeStrsN w r (.returned (.tuple #[v, .int .i64 x, .int .i64 y])) w':=by
 subst h;exact ⟨v,rfl,ho,hb⟩
def RetS3 (w:World) (r:ByteArray×Int×Int) (e:Ending) (w' : World):Prop:=
 e = .returned (.tuple #[.string r.1, .int .i64 r.2.1, .int .i64 r.2.2])∧Still w w'
theorem RetS3.mk {w w' : World} {r:ByteArray×Int×Int} {x:ByteArray} {y z:Int} (h:r=(x,y,z)) (hs:Still w w'):RetS3 w r (.returned (.tuple #[.string x, .int .i64 y, .int .i64 z])) w':=by
 subst h;exact ⟨rfl,hs⟩
theorem Bytes.mid {w:World} {bs:List Int} {cap b off m n:Nat} (hcap:bs.length≤cap) (hm:cap≤maxLen) (hc:∀(j:Nat) (x:Int),bs[j]? = some x→w.cell? ⟨b,off+j,none⟩=some (.int .u8 x)) (hle:m+n≤bs.length) :
  Bytes w (.slice (some ⟨b,off+m,none⟩) n (cap - m)) ((bs.drop m).take n):=by
 have hl:((bs.drop m).take n).length=n:=by rw [List.length_take,List.length_drop];omega
 refine ⟨_,cap - m,b,off+m,by rw [List.length_map,hl],by rw [List.length_map,hl];omega,by omega,fun _=>rfl,fun j u hu=>?_⟩
 rw [List.getElem?_map] at hu
 obtain ⟨x,hx,rfl⟩:=Option.map_eq_some_iff.1 hu
 rw [List.getElem?_take] at hx
 split at hx
 ·rw [List.getElem?_drop] at hx
  rw [Nat.add_assoc];exact hc _ _ hx
 ·cases hx
theorem Bytes.empty {w:World} {a:Option Addr} {c:Nat} (hc:c≤maxLen):Bytes w (.slice a 0 c) []:=
 ⟨a,c,0,0,rfl,by simp,hc,fun h=>by simp at h,fun j u hu=>by simp at hu⟩
end Go.Proofs.YtoamkpgaaanafaaGreat

/- Pure states: contracts over memory as contracts over pure values. -/
namespace Go.Proofs.YtoamkpgaaanafaaGreat
set_option linter.unusedSimpArgs false
set_option linter.unusedVariables false
set_option linter.unnecessarySimpa false
open Go.RowKit
def pattrL (a:PAttr):List PV := [pstr a.name,pint a.kind,pint a.n,pstr a.s]
def pattrs (l:List PAttr):PV:=.sl l.length 4 (l.flatMap pattrL) none
def pdefL (d:PDef):List PV := [pstr d.name,pint d.kind,pint d.lo,pint d.hi,pstrs d.words]
def pdefs (l:List PDef):PV:=.sl l.length 5 (l.flatMap pdefL) none
def pschema (s:PSchema):PV:=.agg [pint s.dims,pint s.metric,pdefs s.defs]
def pentry (e:PEntry):PV:=.agg [pint e.id,pint e.ver,pint e.owner,pint e.filed,pint e.frm,pint e.to,pint e.born,pints e.vec,pattrs e.attrs]
theorem one_pattrs (l:List PAttr):(l.flatMap pattrL).all PV.one=true:=by
 rw [List.all_eq_true]
 intro c hc
 obtain ⟨a,-,h⟩:=List.mem_flatMap.1 hc
 simp [pattrL] at h
 rcases h with rfl|rfl|rfl|rfl<;>rfl
theorem low_pattrL (a:PAttr):∀c∈pattrL a,Low c:=by intro c hc;simp [pattrL] at hc;rcases hc with rfl|rfl|rfl|rfl<;>exact .val _
theorem low_pattrs (l:List PAttr):Low (pattrs l)↔True:=⟨fun _=>trivial,fun _=>.sl _ _ _ _ (fun c hc=>by obtain ⟨a,-,h⟩:=List.mem_flatMap.1 hc;exact low_pattrL a c h)⟩
theorem low_pdefL (d:PDef):∀c∈pdefL d,Low c:=by
 intro c hc;simp [pdefL] at hc
 rcases hc with rfl|rfl|rfl|rfl|rfl
 ·exact .val _
 ·exact .val _
 ·exact .val _
 ·exact .val _
 ·exact (low_pstrs _).2 trivial
theorem low_pdefs (l:List PDef):Low (pdefs l)↔True:=⟨fun _=>trivial,fun _=>.sl _ _ _ _ (fun c hc=>by obtain ⟨a,-,h⟩:=List.mem_flatMap.1 hc;exact low_pdefL a c h)⟩
theorem low_pschema (s:PSchema):Low (pschema s)↔True:=⟨fun _=>trivial,fun _=>.agg _ (by
 intro c hc;simp at hc
 rcases hc with rfl|rfl|rfl
 ·exact .val _
 ·exact .val _
 ·exact (low_pdefs _).2 trivial)⟩
theorem low_pentry (s:PEntry):Low (pentry s)↔True:=⟨fun _=>trivial,fun _=>.agg _ (by
 intro c hc;simp at hc
 rcases hc with rfl|rfl|rfl|rfl|rfl|rfl|rfl|rfl|rfl
 ·exact .val _
 ·exact .val _
 ·exact .val _
 ·exact .val _
 ·exact .val _
 ·exact .val _
 ·exact .val _
 ·exact (low_pints _).2 trivial
 ·exact (low_pattrs _).2 trivial)⟩
section
variable {Φ:Imm} {μ:Nat→Option Nat} {w:World} (himm:∀b o u,Φ b o=some u→w.cell? ⟨b,o,none⟩=some u)
include himm
theorem rd_of_rep {α:Type} {f:α→Value} {l:List α} {n:Nat} {own:Option TypeId} {v:Value} (h:Rep Φ μ (.sl n 1 (l.map fun x=>.val (f x)) own) v):Rd w v (l.map f):=by
 obtain ⟨a,b,off,cap,us,rfl,h1,h2,h3,h4,h5,h6⟩:=h.sl_inv
 have hn:n=l.length:=by simpa using h3.symm
 subst hn
 refine ⟨a,cap,b,off,by simp,by simpa using h1,h2,by simpa using h4,fun j u hu=>?_⟩
 have hj:j < l.length:=by have:=(List.getElem?_eq_some_iff.1 hu).1;simpa using this
 have hr:=h6 j (.val (f l[j])) (by simp [hj])
 obtain ⟨e,-⟩:=hr.val_inv
 have:=himm _ _ _ (h5 j (by simpa using hj))
 rw [this,e]
 simp [hj] at hu
 rw [hu]
theorem ints_of_rep {zs:List Int} {v:Value} (h:Rep Φ μ (pints zs) v):Ints w v zs:=rd_of_rep himm h
theorem strs_of_rep {zs:List ByteArray} {v:Value} (h:Rep Φ μ (pstrs zs) v):Strs w v zs:=rd_of_rep himm h
theorem rdS_of_rep {α:Type} {c:α→List Value} {k:Nat} (hk:∀x,(c x).length=k) {l:List α} {own:Option TypeId} {v:Value} (h:Rep Φ μ (.sl l.length k (l.flatMap fun x=>(c x).map .val) own) v):RdS w v k (l.map c):=by
 obtain ⟨a,b,off,cap,us,rfl,h1,h2,h3,h4,h5,h6⟩:=h.sl_inv
 refine ⟨a,cap,b,off,by simp,by simpa using h1,h2,by simpa using h4,fun i j r u hr hu=>?_⟩
 rw [List.getElem?_map] at hr
 obtain ⟨x,hx,rfl⟩:=Option.map_eq_some_iff.1 hr
 have hget:=flatMap_get (f:=fun x=>(c x).map PV.val) (k:=k) (by intro x;simp [hk]) hx (m:=j) (c:=.val u) (by simp [hu])
 have hlt:=(List.getElem?_eq_some_iff.1 hget).1
 obtain ⟨e,-⟩:=(h6 _ _ hget).val_inv
 have:=himm _ _ _ (h5 _ hlt)
 rw [←Nat.add_assoc] at this
 rw [this,e]
theorem attrs_of_rep {l:List PAttr} {v:Value} (h:Rep Φ μ (pattrs l) v):Attrs w v l:=rdS_of_rep himm (c:=attrC) (fun _=>rfl) h
theorem defs_of_rep {l:List PDef} {v:Value} (h:Rep Φ μ (pdefs l) v):Defs w v l:=by
 obtain ⟨a,b,off,cap,us,rfl,h1,h2,h3,h4,h5,h6⟩:=h.sl_inv
 refine ⟨a,cap,b,off,rfl,h1,h2,h4,fun i d hd=>?_⟩
 have cell:∀(m:Nat) (c:PV),(pdefL d)[m]? = some c→w.cell? ⟨b,off+i * 5+m,none⟩=some (us (i * 5+m))∧Rep Φ μ c (us (i * 5+m)):=by
  intro m c hc
  have hget:=flatMap_get (f:=pdefL) (k:=5) (fun _=>rfl) hd hc
  have hlt:=(List.getElem?_eq_some_iff.1 hget).1
  have:=himm _ _ _ (h5 _ hlt)
  rw [←Nat.add_assoc] at this
  exact ⟨this,h6 _ _ hget⟩
 obtain ⟨c0,r0⟩:=cell 0 _ rfl
 obtain ⟨c1,r1⟩:=cell 1 _ rfl
 obtain ⟨c2,r2⟩:=cell 2 _ rfl
 obtain ⟨c3,r3⟩:=cell 3 _ rfl
 obtain ⟨c4,r4⟩:=cell 4 _ rfl
 refine ⟨us (i * 5+4),⟨by rw [Nat.add_zero] at c0;rw [c0,r0.val_inv.1],by rw [c1,r1.val_inv.1],by rw [c2,r2.val_inv.1],by rw [c3,r3.val_inv.1],c4⟩,strs_of_rep himm r4⟩
theorem schema_of_rep {s:PSchema} {v:Value} (h:Rep Φ μ (pschema s) v):SchemaV w v s:=by
 obtain ⟨us,rfl,hr⟩:=h.agg_inv
 match us,hr with
 | [a,b,c],hr=>
  have h0:=(hr.2 0 _ _ rfl rfl).val_inv.1
  have h1:=(hr.2 1 _ _ rfl rfl).val_inv.1
  have h2:=hr.2 2 _ _ rfl rfl
  subst h0 h1
  exact ⟨c,rfl,defs_of_rep himm h2⟩
 | [],hr=>exact absurd hr.1 (by simp)
 | [_],hr=>exact absurd hr.1 (by simp)
 | [_,_],hr=>exact absurd hr.1 (by simp)
 |_ :: _ :: _ :: _ :: _,hr=>exact absurd hr.1 (by simp)
theorem entry_of_rep {e:PEntry} {v:Value} (h:Rep Φ μ (pentry e) v):EntryV w v e:=by
 obtain ⟨us,rfl,hr⟩:=h.agg_inv
 have hl:=hr.1
 simp only [List.length_cons,List.length_nil] at hl
 have g:∀j (h:j < 9),us[j]? = some (us[j]'(by omega)):=fun j h=>by simp [hl,h]
 obtain ⟨x0,x1,x2,x3,x4,x5,x6,x7,x8,rfl⟩:∃x0 x1 x2 x3 x4 x5 x6 x7 x8,us = [x0,x1,x2,x3,x4,x5,x6,x7,x8]:=by
  match us,hl with
  | [x0,x1,x2,x3,x4,x5,x6,x7,x8],_=>exact ⟨x0,x1,x2,x3,x4,x5,x6,x7,x8,rfl⟩
 have h0:=(hr.2 0 _ _ rfl rfl).val_inv.1
 have h1:=(hr.2 1 _ _ rfl rfl).val_inv.1
 have h2:=(hr.2 2 _ _ rfl rfl).val_inv.1
 have h3:=(hr.2 3 _ _ rfl rfl).val_inv.1
 have h4:=(hr.2 4 _ _ rfl rfl).val_inv.1
 have h5:=(hr.2 5 _ _ rfl rfl).val_inv.1
 have h6:=(hr.2 6 _ _ rfl rfl).val_inv.1
 have h7:=hr.2 7 _ _ rfl rfl
 have h8:=hr.2 8 _ _ rfl rfl
 subst h0 h1 h2 h3 h4 h5 h6
 exact ⟨x7,x8,rfl,ints_of_rep himm h7,attrs_of_rep himm h8⟩
end
theorem pcalls2 {P:Program} {f:FuncId} {p q:PV} {post:PV→Prop} (hc:callB P f=true) (h:∀(Φ:Imm) (μ:Nat→Option Nat) (w:World) (v u:Value),(∀b o u,Φ b o=some u→w.cell? ⟨b,o,none⟩=some u)→Rep Φ μ p v→Rep Φ μ q u→Calls P f #[v,u] w (CallPost Φ w post)):PCalls P f [p,q] post:=by
 refine ⟨hc,fun Φ μ w vs himm hgl hr=>?_⟩
 match vs,hr with
 | [v,u],hr=>exact h Φ μ w v u himm (hr.2 0 _ _ rfl rfl) (hr.2 1 _ _ rfl rfl)
 | [],hr=>exact absurd hr.1 (by simp)
 | [_],hr=>exact absurd hr.1 (by simp)
 |_ :: _ :: _ :: _,hr=>exact absurd hr.1 (by simp)
end Go.Proofs.YtoamkpgaaanafaaGreat

/- The arguments of the laws of attr, opened. -/
namespace Go.Proofs.YtoamkpgaaanafaaGreat
set_option linter.unusedSimpArgs false
set_option linter.unusedVariables false
set_option linter.unnecessarySimpa false
open Go.ChangeShapes Go.WideShapes Go.ChangeAt Go.RowKit
theorem wf64 {z:Int} (h:(Lit.int .i64 z).wf=true):Fit64 z:=by
 simp [Lit.wf,IntKind.min,IntKind.max,IntKind.signed,IntKind.bits] at h
 exact ⟨by omega,by omega⟩
theorem opensInt:Opens Tryz.prog 3 (fun z => [pint z]) Fit64:=(opens_int Tryz.underlying3).map id (fun _ _=>rfl) (fun _ h=>wf64 h)
theorem opensStr:Opens Tryz.prog 9 (fun z => [pstr z]) (fun s=>s.size≤reachBytes):=opens_str Tryz.underlying9
theorem flatMap_one {α:Type} (f:α→PV) (l:List α):l.flatMap (fun x => [f x])=l.map f:=by
 induction l with
 |nil=>rfl
 |cons x l ih=>simp [ih]
theorem opensInts:Opens Tryz.prog 27 (fun l => [pints l]) (fun l=>(∀z∈l,Fit64 z)∧l.length * 8≤reachBytes):=
 (opens_slice Tryz.underlying27 (by kernel_rfl) (by decide) (by kernel_rfl) opensInt (fun _ _=>rfl)).map id (fun a _=>by show [pints a]=_;rw [flatMap_one];rfl) (fun _ h=>h)
theorem opensStrs:Opens Tryz.prog 75 (fun l => [pstrs l]) (fun l=>(∀z∈l,z.size≤reachBytes)∧l.length * 16≤reachBytes):=
 (opens_slice Tryz.underlying75 (by kernel_rfl) (by decide) (by kernel_rfl) opensStr (fun _ _=>rfl)).map id (fun a _=>by show [pstrs a]=_;rw [flatMap_one];rfl) (fun _ h=>h)
theorem opensAttr:Opens Tryz.prog 79 pattrL (fun a=>Fit64 a.kind∧Fit64 a.n):=
 (opens_struct Tryz.underlying79 (opensFs_1 rfl opensStr (by kernel_rfl) (opensFs_1 rfl opensInt (by kernel_rfl) (opensFs_1 rfl opensInt (by kernel_rfl) (opensFs_1 rfl opensStr (by kernel_rfl) opensFs_nil)))) (by kernel_rfl)).map
  (fun p=>⟨p.1,p.2.1,p.2.2.1,p.2.2.2.1⟩) (fun _ _=>rfl) (fun _ h=>⟨h.2.1,h.2.2.1⟩)
theorem opensAttrs:Opens Tryz.prog 48 (fun l => [pattrs l]) (fun l=>(∀a∈l,Fit64 a.kind∧Fit64 a.n)∧l.length * 48≤reachBytes):=
 (opens_slice Tryz.underlying48 (by kernel_rfl) (by decide) (by kernel_rfl) opensAttr (fun _ _=>rfl)).map id (fun a _=>rfl) (fun _ h=>h)
theorem opensDef:Opens Tryz.prog 77 pdefL (fun d=>Fit64 d.kind∧Fit64 d.lo∧Fit64 d.hi∧d.words.length * 16≤reachBytes):=
 (opens_struct Tryz.underlying77 (opensFs_1 rfl opensStr (by kernel_rfl) (opensFs_1 rfl opensInt (by kernel_rfl) (opensFs_1 rfl opensInt (by kernel_rfl) (opensFs_1 rfl opensInt (by kernel_rfl) (opensFs_1 rfl opensStrs (by kernel_rfl) opensFs_nil))))) (by kernel_rfl)).map
  (fun p=>⟨p.1,p.2.1,p.2.2.1,p.2.2.2.1,p.2.2.2.2.1⟩) (fun _ _=>rfl) (fun _ h=>by obtain ⟨a,b,c,d,e,f⟩:=h;exact ⟨b,c,d,e.2⟩)
theorem opensDefs:Opens Tryz.prog 22 (fun l => [pdefs l]) (fun l=>(∀d∈l,Fit64 d.kind∧Fit64 d.lo∧Fit64 d.hi∧d.words.length * 16≤reachBytes)∧l.length * 64≤reachBytes):=
 (opens_slice Tryz.underlying22 (by kernel_rfl) (by decide) (by kernel_rfl) opensDef (fun _ _=>rfl)).map id (fun a _=>rfl) (fun _ h=>h)
structure GoodS (s:PSchema):Prop where
 dims:Fit64 s.dims
 metric:Fit64 s.metric
 defs:∀d∈s.defs,Fit64 d.kind∧Fit64 d.lo∧Fit64 d.hi∧d.words.length * 16≤reachBytes
 len:s.defs.length * 64≤reachBytes
theorem argSchema:ArgOpens Tryz.prog 24 pschema GoodS:=
 (arg_struct Tryz.underlying24 (opens_struct Tryz.underlying24 (opensFs_1 rfl opensInt (by kernel_rfl) (opensFs_1 rfl opensInt (by kernel_rfl) (opensFs_1 rfl opensDefs (by kernel_rfl) opensFs_nil))) (by kernel_rfl))).map
  (fun p=>⟨p.1,p.2.1,p.2.2.1⟩) (fun _ _=>rfl) (fun _ h=>by obtain ⟨a,b,c,d⟩:=h;exact ⟨a,b,c.1,c.2⟩)
structure GoodE (e:PEntry):Prop where
 fit:FitE e
 vec:e.vec.length * 8≤reachBytes
 attrs:e.attrs.length * 48≤reachBytes
theorem argInt:ArgOpens Tryz.prog 3 pint Fit64:=(arg_int Tryz.underlying3).map id (fun _ _=>rfl) (fun _ h=>wf64 h)
theorem reach_eq:reachBytes=140737488351232:=rfl
end Go.Proofs.YtoamkpgaaanafaaGreat

/- New slices of numbers and bytes. -/
namespace Go.Proofs.YtoamkpgaaanafaaGreat
set_option linter.unusedSimpArgs false
set_option linter.unusedVariables false
set_option linter.unnecessarySimpa false
open Go.RowKit
def pintsO (zs:List Int):PV:=.sl zs.length 1 (zs.map pint) (some 3)
end Go.Proofs.YtoamkpgaaanafaaGreat
