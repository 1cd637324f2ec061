/- Out of: AttrE, AttrF, AttrJ, PwWk, AttrS. -/
import Derived.Test.YtoamkpgaaanafaaGreatK1
import Derived.Test.YtoamkpgaaanafaaGreatK2
import Derived.Test.YtoamkpgaaanafaaGreatK3
import Derived.Test.YtoamkpgaaanafaaGreatK4
import Derived.Test.YtoamkpgaaanafaaGreatK5
import Derived.Test.YtoamkpgaaanafaaGreatK6
import Derived.Test.YtoamkpgaaanafaaGreatK8
import Derived.Test.YtoamkpgaaanafaaGreatK9
namespace Go.Proofs.YtoamkpgaaanafaaGreat
set_option linter.unusedSimpArgs false
set_option linter.unusedVariables false
set_option linter.unnecessarySimpa false
section
open Go.RowKit
theorem flat_get {α:Type} (k:Nat):∀(rows:List (List α)),(∀r∈rows,r.length=k)→∀(i j:Nat) (r:List α) (u:α),rows[i]? = some r→r[j]? = some u→rows.flatten[i * k+j]? = some u
 | [],_,i,j,r,u,h,_=>by simp at h
 |x :: xs,hk,0,j,r,u,h,hu=>by
  simp at h;subst h
  have hj:j < x.length:=(List.getElem?_eq_some_iff.1 hu).1
  rw [List.flatten_cons,Nat.zero_mul,Nat.zero_add,List.getElem?_append_left hj]
  exact hu
 |x :: xs,hk,i+1,j,r,u,h,hu=>by
  have hx:=hk x (by simp)
  rw [List.flatten_cons,List.getElem?_append_right (by rw [hx,Nat.succ_mul];omega),hx]
  have e:(i+1) * k+j - k=i * k+j:=by rw [Nat.succ_mul];omega
  rw [e]
  exact flat_get k xs (fun r hr=>hk r (by simp [hr])) i j r u (by simpa using h) hu
theorem RdS.lit (w:World) (k:Nat) (rows:List (List Value)) (hk:∀r∈rows,r.length=k) (T:TypeId) (hm:rows.length≤maxLen) :
  RdS (w.alloc (.cells rows.flatten.toArray T)) (.slice (some ⟨w.heap.size,0,none⟩) rows.length rows.length) k rows:=by
 refine ⟨_,_,w.heap.size,0,rfl,Nat.le_refl _,hm,fun _=>rfl,fun i j r u hr hu=>?_⟩
 have:=flat_get k rows hk i j r u hr hu
 rw [←this]
 simp [cell_of_row _ _ _ _ _ (0,0) (heap_alloc_new w (.cells rows.flatten.toArray T))]
theorem Rules.lit (w:World) (rs:List Rule) (T:TypeId) (hm:rs.length≤1000):Rules (w.alloc (.cells (rs.map ruleC).flatten.toArray T)) (.slice (some ⟨w.heap.size,0,none⟩) rs.length rs.length) rs:=by
 have:=RdS.lit w 2 (rs.map ruleC) (by intro r hr;obtain ⟨x,_,rfl⟩:=List.mem_map.1 hr;rfl) T (by simp [maxLen];omega)
 simpa [Rules] using this
theorem Rules.mk {w:World} {g n:Nat} {T:TypeId} {cs:Array Value} (rs:List Rule) (hm:rs.length≤1000) (hg:g=w.heap.size) (hn:n=rs.length) (hcs:cs=(rs.map ruleC).flatten.toArray) :
  Rules (w.alloc (.cells cs T)) (.slice (some ⟨g,0,none⟩) n n) rs:=by
 subst hg hn hcs
 exact Rules.lit w rs T hm
def defA (d:PDef) (bf:ByteArray):List (Bool×Int) := [(!nameB d.name,5),(leqB d.name bf,6),(kindBad d,130)]
def defBI (d:PDef):List (Bool×Int) := [(rangeBad d,131),(decide (0 < d.words.length),3)]
def defBW (d:PDef):List (Bool×Int) := [(formBad d,3),(manyBad d,2),(d.words.any fun s => !nameB s,5),(!riseB d.words,6)]
theorem defE_bad (d:PDef) (bf:ByteArray) (h:firstE (defA d bf)≠0):defE d bf=firstE (defA d bf):=by
 unfold defE
 revert h
 simp only [defA,firstE,kindBad]
 cases nameB d.name<;>cases leqB d.name bf<;>simp<;>(try (intro h1 h2;rw [if_neg h1,if_neg h2,if_pos ⟨h1,h2⟩]))
theorem defE_int (d:PDef) (bf:ByteArray) (h:firstE (defA d bf)=0) (hk:d.kind=1):defE d bf=firstE (defBI d):=by
 unfold defE
 revert h
 simp only [defA,firstE,kindBad,defBI,rangeBad]
 cases nameB d.name<;>cases leqB d.name bf<;>simp [hk]
theorem defE_word (d:PDef) (bf:ByteArray) (h:firstE (defA d bf)=0) (hk:d.kind≠1):defE d bf=firstE (defBW d):=by
 unfold defE
 revert h
 simp only [defA,firstE,kindBad,defBW,formBad,manyBad,wordsE]
 cases nameB d.name<;>cases leqB d.name bf<;>simp [hk]
 intro h2'
 cases riseB d.words<;>simp [h2']
theorem DefAt.box (w:World) (d:PDef) (wv:Value) (T:TypeId):DefAt (w.alloc (.cells #[.string d.name, .int .i64 d.kind, .int .i64 d.lo, .int .i64 d.hi,wv] T)) w.heap.size 0 d wv:=by
 refine ⟨?_,?_,?_,?_,?_⟩<;>simp
theorem below_two (w:World) (o p:Obj):Below w.heap.size w ((w.alloc o).alloc p):=(below_alloc w o).trans ((below_alloc _ p).mono (below_alloc w o).size)
theorem below_three (w:World) (o p q:Obj):Below w.heap.size w (((w.alloc o).alloc p).alloc q):=(below_two w o p).trans ((below_alloc _ q).mono (below_two w o p).size)
theorem blift {w w1 w2:World} (h:Below w.heap.size w w1) (h2:Below w1.heap.size w1 w2):Below w.heap.size w w2:=h.trans (h2.mono h.size)
def EnvD (d:PDef) (wv:Value) (bf:ByteArray) (g h:Nat) (w:World):Prop:=DefAt w g 0 d wv∧Strs w wv d.words∧w.cell? ⟨h,0,none⟩=some (.string bf)
theorem EnvD.below {d:PDef} {wv:Value} {bf:ByteArray} {g h:Nat} {w w' : World} (e:EnvD d wv bf g h w) (hb:Below w.heap.size w w'):EnvD d wv bf g h w':=
 ⟨e.1.below hb,e.2.1.below hb,below_cell hb e.2.2⟩
def rulesA (d:PDef) (bf:ByteArray) (g h:Nat):List Rule := [⟨213,#[.pointer (some ⟨g,0,none⟩)],!nameB d.name,5⟩,⟨215,#[.pointer (some ⟨g,0,none⟩), .pointer (some ⟨h,0,none⟩)],leqB d.name bf,6⟩,⟨216,#[.pointer (some ⟨g,0,none⟩)],kindBad d,130⟩]
def rulesBI (d:PDef) (g:Nat):List Rule := [⟨217,#[.pointer (some ⟨g,0,none⟩)],rangeBad d,131⟩,⟨218,#[.pointer (some ⟨g,0,none⟩)],decide (0 < d.words.length),3⟩]
def rulesBW (d:PDef) (g:Nat):List Rule := [⟨219,#[.pointer (some ⟨g,0,none⟩)],formBad d,3⟩,⟨220,#[.pointer (some ⟨g,0,none⟩)],manyBad d,2⟩,⟨221,#[.pointer (some ⟨g,0,none⟩)],d.words.any fun s => !nameB s,5⟩,⟨223,#[.pointer (some ⟨g,0,none⟩)],!riseB d.words,6⟩]
theorem runA {d:PDef} {wv:Value} {bf:ByteArray} {g h:Nat} {w:World} (e:EnvD d wv bf g h w) (hs:SmallD d) (v:Value) (hv:Rules w v (rulesA d bf g h)) :
  Calls Tryz.prog 87 #[v] w (RetI w (firstE (defA d bf))):=by
 refine attrFirst v (rulesA d bf g h) w hv (Nat.le_of_ble_eq_true rfl) ?_ ?_
 ·intro r hr
  simp only [rulesA,List.mem_cons,List.not_mem_nil,or_false] at hr
  rcases hr with rfl|rfl|rfl
  ·exact cD1
  ·exact cD2
  ·exact cD3
 ·intro r hr w' hb
  have e':=e.below hb
  simp only [rulesA,List.mem_cons,List.not_mem_nil,or_false] at hr
  rcases hr with rfl|rfl|rfl
  ·exact def1 g d wv w' e'.1 hs.1
  ·exact def2 g h d wv bf w' e'.1 e'.2.2
  ·exact def3 g d wv w' e'.1
theorem runBI {d:PDef} {wv:Value} {bf:ByteArray} {g h:Nat} {w:World} (e:EnvD d wv bf g h w) (hs:SmallD d) (v:Value) (hv:Rules w v (rulesBI d g)) :
  Calls Tryz.prog 87 #[v] w (RetI w (firstE (defBI d))):=by
 refine attrFirst v (rulesBI d g) w hv (Nat.le_of_ble_eq_true rfl) ?_ ?_
 ·intro r hr
  simp only [rulesBI,List.mem_cons,List.not_mem_nil,or_false] at hr
  rcases hr with rfl|rfl
  ·exact cD4
  ·exact cD5
 ·intro r hr w' hb
  have e':=e.below hb
  simp only [rulesBI,List.mem_cons,List.not_mem_nil,or_false] at hr
  rcases hr with rfl|rfl
  ·exact def4 g d wv w' e'.1
  ·exact def5 g d wv w' e'.1 e'.2.1 hs.2.1
theorem runBW {d:PDef} {wv:Value} {bf:ByteArray} {g h:Nat} {w:World} (e:EnvD d wv bf g h w) (hs:SmallD d) (v:Value) (hv:Rules w v (rulesBW d g)) :
  Calls Tryz.prog 87 #[v] w (RetI w (firstE (defBW d))):=by
 refine attrFirst v (rulesBW d g) w hv (Nat.le_of_ble_eq_true rfl) ?_ ?_
 ·intro r hr
  simp only [rulesBW,List.mem_cons,List.not_mem_nil,or_false] at hr
  rcases hr with rfl|rfl|rfl|rfl
  ·exact cD6
  ·exact cD7
  ·exact cD8
  ·exact cD9
 ·intro r hr w' hb
  have e':=e.below hb
  simp only [rulesBW,List.mem_cons,List.not_mem_nil,or_false] at hr
  rcases hr with rfl|rfl|rfl|rfl
  ·exact def6 g d wv w' e'.1
  ·exact def7 g d wv w' e'.1 e'.2.1 hs.2.1
  ·exact def8 g d wv w' e'.1 e'.2.1 hs.2.1 hs.2.2
  ·exact def9 g d wv w' e'.1 e'.2.1 hs.2.1
theorem EnvD.boxes (d:PDef) (wv:Value) (bf:ByteArray) (w:World) (hs:Strs w wv d.words) (o:Obj) :
  EnvD d wv bf w.heap.size (w.heap.size+1) (((w.alloc (.cells #[.string d.name, .int .i64 d.kind, .int .i64 d.lo, .int .i64 d.hi,wv] 77)).alloc (.cells #[.string bf] 9)).alloc o):=by
 refine EnvD.below ⟨(DefAt.box w d wv _).below (below_alloc _ _),hs.below (below_two _ _ _),?_⟩ (below_alloc _ _)
 have:=cell_of_row _ _ 0 _ _ (0,0) (heap_alloc_new (w.alloc (.cells #[.string d.name, .int .i64 d.kind, .int .i64 d.lo, .int .i64 d.hi,wv] 77)) (.cells #[.string bf] 9))
 simpa using this
set_option maxRecDepth 100000 in
set_option maxHeartbeats 1000000 in
theorem attrDef (d:PDef) (wv:Value) (bf:ByteArray) (w:World) (hs:Strs w wv d.words) (hsm:SmallD d) :
  Calls Tryz.prog 132 #[defV d wv, .string bf] w (RetI w (defE d bf)):=by
 have HE:=Lib.hid (EnvD.boxes d wv bf w hs)
 have HS:=Lib.hid hsm
 have HB:=fun o=>below_three w (.cells #[.string d.name, .int .i64 d.kind, .int .i64 d.lo, .int .i64 d.hi,wv] 77) (.cells #[.string bf] 9) o
 have HB:=Lib.hid HB
 clear hs hsm
 unfold defV
 by_cases e1:firstE (defA d bf)=0
 ·have E1:(firstE (defA d bf) != 0)=false:=by simpa using e1
  by_cases hk:d.kind=1
  ·have F:=defE_int d bf e1 hk
   have K:(d.kind == 1)=true:=by simpa using hk
   rw [F]
   clear F e1 hk
   go_enter Tryz.func132,Tryz.ntmps132
   go_wp2_with fail
   refine (runA (HE.out _) HS.out _ (Rules.mk (rulesA d bf _ _) (Nat.le_of_ble_eq_true rfl) (by simp) rfl rfl)).mono ?_
   rintro e w1 ⟨rfl,hb⟩
   have hE:=Lib.hid ((HE.out _).below hb)
   have hB:=Lib.hid (blift (HB.out _) hb)
   clear HE HB hb
   generalize firstE (defA d bf)=x1 at *
   have c1:=hE.out.1.2.1
   go_wp2_with fail
   refine (runBI (hE.out.below (below_alloc _ _)) HS.out _ (Rules.mk (rulesBI d _) (Nat.le_of_ble_eq_true rfl) (by simp) rfl rfl)).mono ?_
   rintro e w2 ⟨rfl,hb⟩
   go_wp2
   go_ret
   exact RetI.mk rfl (blift (blift hB.out (below_alloc _ _)) hb)
  ·have F:=defE_word d bf e1 hk
   have K:(d.kind == 1)=false:=by simpa using hk
   rw [F]
   clear F e1 hk
   go_enter Tryz.func132,Tryz.ntmps132
   go_wp2_with fail
   refine (runA (HE.out _) HS.out _ (Rules.mk (rulesA d bf _ _) (Nat.le_of_ble_eq_true rfl) (by simp) rfl rfl)).mono ?_
   rintro e w1 ⟨rfl,hb⟩
   have hE:=Lib.hid ((HE.out _).below hb)
   have hB:=Lib.hid (blift (HB.out _) hb)
   clear HE HB hb
   generalize firstE (defA d bf)=x1 at *
   have c1:=hE.out.1.2.1
   go_wp2_with fail
   refine (runBW (hE.out.below (below_alloc _ _)) HS.out _ (Rules.mk (rulesBW d _) (Nat.le_of_ble_eq_true rfl) (by simp) rfl rfl)).mono ?_
   rintro e w2 ⟨rfl,hb⟩
   go_wp2
   go_ret
   exact RetI.mk rfl (blift (blift hB.out (below_alloc _ _)) hb)
 ·have F:=defE_bad d bf e1
  have E1:(firstE (defA d bf) != 0)=true:=by simpa using e1
  rw [F]
  clear F e1
  go_enter Tryz.func132,Tryz.ntmps132
  go_wp2_with fail
  refine (runA (HE.out _) HS.out _ (Rules.mk (rulesA d bf _ _) (Nat.le_of_ble_eq_true rfl) (by simp) rfl rfl)).mono ?_
  rintro e w1 ⟨rfl,hb⟩
  have hB:=Lib.hid (blift (HB.out _) hb)
  clear HE HB hb
  generalize firstE (defA d bf)=x1 at *
  go_wp2
  go_ret
  exact RetI.mk rfl hB.out
def SmallS (s:PSchema):Prop:=s.defs.length≤1000∧∀d∈s.defs,SmallD d
def argBad (s:PSchema):Bool:=decide (s.dims < 1) || (decide (32 < s.dims) || (decide (s.metric < 1) || decide (3 < s.metric)))
def chkGo (x:Int) (b:ByteArray) (l:List PDef):Int:=if x≠0 then x else defsE b l
theorem chkGo_drop (l:List PDef) (k:Nat) (b:ByteArray) (d:PDef) (h:l[k]? = some d):chkGo 0 b (l.drop k)=chkGo (defE d b) d.name (l.drop (k+1)):=by
 obtain ⟨hk,rfl⟩:=List.getElem?_eq_some_iff.1 h
 rw [List.drop_eq_getElem_cons (by omega)]
 simp [chkGo,defsE]
theorem chkGo_end (l:List PDef) (k:Nat) (x:Int) (b:ByteArray) (h:l.length≤k):chkGo x b (l.drop k)=x:=by
 rw [List.drop_eq_nil_of_le h]
 simp [chkGo,defsE]
 intro h;exact h.symm
theorem chkGo_bad (x:Int) (b:ByteArray) (l:List PDef) (h:x≠0):chkGo x b l=x:=by simp [chkGo,h]
theorem checkE_chk (s:PSchema):checkE s=chkGo (firstE [(argBad s,1),(decide (16 < s.defs.length),2)]) ByteArray.empty s.defs:=by
 unfold checkE chkGo
 simp only [firstE,argBad,Bool.or_eq_true,decide_eq_true_eq]
 by_cases h:s.dims < 1∨32 < s.dims∨s.metric < 1∨3 < s.metric
 ·simp only [if_pos h];simp
 ·by_cases h2:16 < s.defs.length
  ·simp only [if_neg h,if_pos h2];simp
  ·simp only [if_neg h,if_neg h2];simp
def SchAt (w:World) (g:Nat) (s:PSchema) (dv:Value):Prop:=w.cell? ⟨g,0,none⟩=some (.int .i64 s.dims)∧w.cell? ⟨g,1,none⟩=some (.int .i64 s.metric)∧w.cell? ⟨g,2,none⟩=some dv∧Defs w dv s.defs
theorem SchAt.below {w w' : World} {g:Nat} {s:PSchema} {dv:Value} (h:SchAt w g s dv) (hb:Below w.heap.size w w'):SchAt w' g s dv:=
 ⟨below_cell hb h.1,below_cell hb h.2.1,below_cell hb h.2.2.1,h.2.2.2.below hb⟩
theorem SchAt.box (w:World) (s:PSchema) (dv:Value) (T:TypeId) (h:Defs w dv s.defs):SchAt (w.alloc (.cells #[.int .i64 s.dims, .int .i64 s.metric,dv] T)) w.heap.size s dv:=by
 refine ⟨?_,?_,?_,h.below (below_alloc _ _)⟩<;>simp
theorem check1 (g:Nat) (s:PSchema) (dv:Value) (w:World) (h:SchAt w g s dv):Calls Tryz.prog 130 #[.pointer (some ⟨g,0,none⟩)] w (RetB w (argBad s)):=by
 obtain ⟨c0,c1,c2,-⟩:=h
 cases e:decide (s.dims < 1)<;>cases e2:decide (32 < s.dims)<;>cases e3:decide (s.metric < 1)
 all_goals
  go_enter Tryz.func130,Tryz.ntmps130
  go_wp2
  go_ret
  exact RetB.mk (by simp [argBad,e,e2,e3]) (Below.refl _ _)
theorem check2 (g:Nat) (s:PSchema) (dv:Value) (w:World) (h:SchAt w g s dv) (hl:s.defs.length≤1000):Calls Tryz.prog 131 #[.pointer (some ⟨g,0,none⟩)] w (RetB w (decide (16 < s.defs.length))):=by
 obtain ⟨c0,c1,c2,hd⟩:=h
 obtain ⟨a,cap,b,off,rfl,-⟩:=hd.open
 have e:decide ((16:Int) < (s.defs.length:Int))=decide (16 < s.defs.length):=by rw [Bool.eq_iff_iff];simp only [decide_eq_true_eq];omega
 have E:=Lib.hid e
 clear e
 go_enter Tryz.func131,Tryz.ntmps131
 go_wp2
 go_ret
 exact RetB.mk E.out (Below.refl _ _)
theorem cC1:CallOk 130:=fun _ _=>by kernel_rfl
theorem cC2:CallOk 131:=fun _ _=>by kernel_rfl
def rulesC (s:PSchema) (g:Nat):List Rule := [⟨130,#[.pointer (some ⟨g,0,none⟩)],argBad s,1⟩,⟨131,#[.pointer (some ⟨g,0,none⟩)],decide (16 < s.defs.length),2⟩]
theorem runC {s:PSchema} {dv:Value} {g:Nat} {w:World} (e:SchAt w g s dv) (hl:s.defs.length≤1000) (v:Value) (hv:Rules w v (rulesC s g)) :
  Calls Tryz.prog 87 #[v] w (RetI w (firstE [(argBad s,1),(decide (16 < s.defs.length),2)])):=by
 refine attrFirst v (rulesC s g) w hv (Nat.le_of_ble_eq_true rfl) ?_ ?_
 ·intro r hr
  simp only [rulesC,List.mem_cons,List.not_mem_nil,or_false] at hr
  rcases hr with rfl|rfl
  ·exact cC1
  ·exact cC2
 ·intro r hr w' hb
  have e':=e.below hb
  simp only [rulesC,List.mem_cons,List.not_mem_nil,or_false] at hr
  rcases hr with rfl|rfl
  ·exact check1 g s dv w' e'
  ·exact check2 g s dv w' e' hl
set_option maxRecDepth 100000 in
set_option maxHeartbeats 1000000 in
theorem attrCheck (v:Value) (s:PSchema) (w:World) (hv:SchemaV w v s) (hsm:SmallS s):Calls Tryz.prog 54 #[v] w (RetI w (checkE s)):=by
 obtain ⟨dv,rfl,hd⟩:=hv
 obtain ⟨s1,s2⟩:=hsm
 have S2:Hid (∀d∈s.defs,SmallD d):=s2
 have HB:=Lib.hid (SchAt.box w s dv 24 hd)
 have hw0:Below w.heap.size w (w.alloc (.cells #[.int .i64 s.dims, .int .i64 s.metric,dv] 24)):=below_alloc _ _
 have C:=Lib.hid (checkE_chk s)
 clear s2 hd
 go_enter Tryz.func54,Tryz.ntmps54
 go_wp2_with fail
 generalize hw:w.alloc (.cells #[.int .i64 s.dims, .int .i64 s.metric,dv] 24)=w0 at *
 have hsz:w.heap.size+1=w0.heap.size:=by rw [←hw];simp
 clear hw
 refine (runC (HB.out.below (below_alloc _ _)) (by omega) _ (Rules.mk (rulesC s _) (Nat.le_of_ble_eq_true rfl) (by rw [←hsz]) rfl rfl)).mono ?_
 rintro e w1 ⟨rfl,hb⟩
 have hb1:=blift (below_alloc _ _) hb
 clear hb hsz
 generalize firstE [(argBad s,1),(decide (16 < s.defs.length),2)]=x1 at *
 have ha:=HB.out.2.2.2.open
 go_wp2
 go_loopw [3,4,5] (fun e b i wr=>∃(k:Nat) (x:Int) (bf:ByteArray),k≤s.defs.length∧i = .int .i64 k∧e = .int .i64 x∧b = .string bf∧Below w0.heap.size w0 wr∧Hid (checkE s=chkGo x bf (s.defs.drop k))) (fun _ _ i _=>s.defs.length - (intOf i).toNat)
 case atStart=>exact ⟨0,x1,_,by omega,rfl,rfl,rfl,hb1,C.out⟩
 case round=>
  obtain ⟨k,x,bf,hk,rfl,rfl,rfl,hb,hh⟩:=hrel
  obtain ⟨a,cap,b,off,rfl,-,-,ha,hc⟩:=ha
  have HS:=Lib.hid (HB.out.below hb)
  have c2:=HS.out.2.2.1
  by_cases hlt:k < s.defs.length
  ·by_cases hx:x=0
   ·subst hx
    obtain ⟨y,hy⟩:=ints_get s.defs k (by omega)
    obtain ⟨wv,hd,hs⟩:=hc.out k y hy
    obtain ⟨d0,d1,d2,d3,d4⟩:=hd.below hb
    have H:=Lib.hid (chkGo_drop s.defs k bf y hy)
    have hs':=Lib.hid (hs.below hb)
    have hsm:=Lib.hid (S2.out y (List.mem_of_getElem? hy))
    obtain rfl:=ha (by omega)
    clear hs hd hc hy ha
    go_wp2_with fail
    refine (attrDef y wv bf _ hs'.out hsm.out).mono ?_
    rintro e w2 ⟨rfl,hb2⟩
    have d0':=below_cell hb2 d0
    have c2':=below_cell hb2 c2
    have hb3:=blift hb hb2
    clear hb hb2 d0 d1 d2 d3 d4 c2 hs'
    go_wp2
    go_roundw
    case rel=>exact ⟨k+1,_,_,by omega,by go_num,rfl,rfl,hb3,by rw [Hid,hh.out,H.out]⟩
    case measure=>simp [intOf];omega
   ·have hx' : (x == 0)=false:=by simpa using hx
    have F:=Lib.hid (chkGo_bad x bf (s.defs.drop k) hx)
    clear hx hc ha
    go_wp2
    go_ret
    exact RetI.mk (by rw [hh.out,F.out]) (blift hw0 hb)
  ·have F:=Lib.hid (chkGo_end s.defs k x bf (by omega))
   clear hc ha
   go_wp2
   go_ret
   exact RetI.mk (by rw [hh.out,F.out]) (blift hw0 hb)
def FewRet (w:World) (p:Prop) (e:Ending) (w' : World):Prop:=∃b:Bool,e = .returned (.bool b)∧(b=true→p)∧Below w.heap.size w w'
theorem FewRet.mk {w w' : World} {p:Prop} {b:Bool} (h:b=true→p) (hb:Below w.heap.size w w'):FewRet w p (.returned (.bool b)) w':=⟨b,rfl,h,hb⟩
def FewD (d:PDef):Prop:=d.words.length≤60∧d.name.size≤100∧∀s∈d.words,s.size≤100
def FewS (s:PSchema):Prop:=s.defs.length≤20∧∀d∈s.defs,FewD d
theorem FewS.small {s:PSchema} (h:FewS s):SmallS s:=⟨by have:=h.1;omega,fun d hd=>⟨by have:=(h.2 d hd).2.1;omega,by have:=(h.2 d hd).1;omega,fun x hx=>by have:=(h.2 d hd).2.2 x hx;omega⟩⟩
def EntAt (w:World) (g:Nat) (e:PEntry) (vv av:Value):Prop:=
 w.cell? ⟨g,0,none⟩=some (.int .i64 e.id)∧w.cell? ⟨g,1,none⟩=some (.int .i64 e.ver)∧w.cell? ⟨g,2,none⟩=some (.int .i64 e.owner)∧w.cell? ⟨g,3,none⟩=some (.int .i64 e.filed) ∧
 w.cell? ⟨g,4,none⟩=some (.int .i64 e.frm)∧w.cell? ⟨g,5,none⟩=some (.int .i64 e.to)∧w.cell? ⟨g,6,none⟩=some (.int .i64 e.born)∧w.cell? ⟨g,7,none⟩=some vv∧w.cell? ⟨g,8,none⟩=some av∧Ints w vv e.vec∧Attrs w av e.attrs
theorem EntAt.below {w w' : World} {g:Nat} {e:PEntry} {vv av:Value} (h:EntAt w g e vv av) (hb:Below w.heap.size w w'):EntAt w' g e vv av:=by
 obtain ⟨h0,h1,h2,h3,h4,h5,h6,h7,h8,h9,h10⟩:=h
 exact ⟨below_cell hb h0,below_cell hb h1,below_cell hb h2,below_cell hb h3,below_cell hb h4,below_cell hb h5,below_cell hb h6,below_cell hb h7,below_cell hb h8,h9.below hb,h10.below hb⟩
theorem EntAt.box (w:World) (e:PEntry) (vv av:Value) (T:TypeId) (h:Ints w vv e.vec) (h2:Attrs w av e.attrs):EntAt (w.alloc (.cells #[.int .i64 e.id, .int .i64 e.ver, .int .i64 e.owner, .int .i64 e.filed, .int .i64 e.frm, .int .i64 e.to, .int .i64 e.born,vv,av] T)) w.heap.size e vv av:=by
 refine ⟨?_,?_,?_,?_,?_,?_,?_,?_,?_,h.below (below_alloc _ _),h2.below (below_alloc _ _)⟩<;>simp
structure Hold2 (q:Prop):Prop where
 out:q
theorem ops0 {p q:Prop} (k:q) (h:Hold2 q→p:=by intro hHold;((with_reducible refine PWops.idd ?_);first|(first|refine PWops.cvI rfl rfl rfl rfl (by (first|omega|(dsimp only;omega))) (by (first|omega|(dsimp only;omega))) rfl ?_|refine PWops.stepA rfl ?_|refine PWops.doneI rfl ?_|refine PWops.boolK true rfl rfl rfl rfl (by (first|rfl|assumption|(simp only [decide_eq_true_eq,decide_eq_false_iff_not,bne_iff_ne,beq_iff_eq,beq_eq_false_iff_ne,bne_eq_false_iff_eq,ne_eq];omega))) rfl ?_|refine PWops.boolK false rfl rfl rfl rfl (by (first|rfl|assumption|(simp only [decide_eq_true_eq,decide_eq_false_iff_not,bne_iff_ne,beq_iff_eq,beq_eq_false_iff_ne,bne_eq_false_iff_eq,ne_eq];omega))) rfl ?_|refine PWops.fitsK rfl rfl rfl rfl (by (first|omega|(dsimp only;omega))) (by (first|omega|(dsimp only;omega))) rfl ?_|refine PWops.remK rfl rfl rfl rfl (by (first|omega|(dsimp only;omega))) rfl ?_|refine PWops.quoK rfl rfl rfl rfl (by (first|omega|(dsimp only;omega))) rfl ?_|refine PWops.app rfl rfl rfl rfl rfl rfl rfl rfl (by (first|omega|(dsimp only;omega))) (by (first|omega|(dsimp only;omega))) (by first|rfl|exact secL_one _|exact putL_one _|exact one_pint _|exact one_pstr _|exact one_pbyte _|exact one_pattrs _) ?_|refine PWops.app0 rfl rfl rfl rfl rfl rfl rfl rfl (by (first|omega|(dsimp only;omega))) (by (first|omega|(dsimp only;omega))) (by first|rfl|exact secL_one _|exact putL_one _|exact one_pint _|exact one_pstr _|exact one_pbyte _|exact one_pattrs _) ?_|refine PWops.idx1 rfl rfl rfl rfl rfl rfl rfl rfl (by (first|omega|(dsimp only;omega))) ?_|refine PWops.idx rfl rfl rfl rfl rfl rfl rfl rfl (by (first|omega|(dsimp only;omega))) ?_|refine PWops.ld rfl rfl rfl rfl rfl rfl rfl (by assumption) rfl ?_|refine PWops.ldA rfl rfl rfl rfl rfl rfl (by (first|omega|(dsimp only;omega))) (by assumption) ?_|refine PWops.str rfl rfl rfl rfl rfl rfl rfl rfl rfl rfl rfl ?_)|(first|refine PWops.arU rfl rfl rfl rfl rfl rfl ?_|refine PWops.boxA rfl rfl rfl rfl rfl (by (first|rfl|exact secL_one _|exact dcellL_one _|exact putL_one _|exact one_map (fun _=>rfl) _)) (by (first|rfl|exact secL_bare _|exact dcellL_bare _|exact putL_bare _|exact bare_map (fun _=>rfl) _)) ?_|refine PWops.litA rfl rfl rfl rfl rfl rfl rfl (by (first|rfl|exact secL_len _|exact dcellL_len _|exact putL_len _|exact len_map (by assumption)|exact len_map rfl)) rfl rfl rfl (by (first|rfl|exact secL_one _|exact dcellL_one _|exact putL_one _|exact one_map (fun _=>rfl) _)) (by (first|rfl|exact secL_bare _|exact dcellL_bare _|exact putL_bare _|exact bare_map (fun _=>rfl) _)) ?_|refine PWops.shlK rfl rfl rfl rfl rfl rfl (by (first|omega|(dsimp only;omega)|decide)) ?_|refine PWops.shrK rfl rfl rfl rfl rfl rfl (by (first|omega|(dsimp only;omega)|decide)) ?_|refine PWops.ldBC rfl rfl rfl rfl rfl rfl rfl rfl (by (first|exact secL_len|exact dcellL_len|exact putL_len|(intro;rfl))) (by (first|omega|(dsimp only;omega))) (by (first|rfl|exact dcellL_64 _)) rfl ?_|refine PWops.ldRB rfl rfl rfl rfl rfl rfl (by (first|exact secL_len|exact dcellL_len|exact putL_len|(intro;rfl))) (by (first|omega|(dsimp only;omega))) (by (first|exact secL_bare|exact dcellL_bare|exact putL_bare|(intro;rfl))) ?_|refine PWops.ldSec rfl rfl rfl rfl rfl rfl rfl (by first|with_reducible rfl|with_reducible exact dC_flat _) (by rfl) (by (first|omega|(dsimp only;omega))) ?_|refine PWops.ldBR rfl rfl rfl rfl rfl rfl rfl (by (first|exact secL_len|exact dcellL_len|exact putL_len|(intro;rfl))) (by (first|omega|(dsimp only;omega))) (by (first|exact secL_bare _|exact dcellL_bare _|exact putL_bare _|rfl)) ?_|refine PWops.lkp rfl rfl rfl rfl rfl rfl rfl rfl rfl rfl rfl (by assumption) ?_|refine PWops.ldAll rfl rfl rfl rfl rfl rfl rfl (by (first|rfl|exact secL_len _|exact dcellL_len _|exact putL_len _|exact len_map (by assumption)|exact len_map rfl)) (by (first|rfl|exact secL_bare _|exact dcellL_bare _|exact putL_bare _|exact bare_map (fun _=>rfl) _)) ?_|refine PWops.stAll rfl rfl rfl rfl rfl rfl rfl rfl rfl (by (first|rfl|exact secL_len _|exact dcellL_len _|exact putL_len _|exact len_map (by assumption)|exact len_map rfl)) (by (first|rfl|exact secL_len _|exact dcellL_len _|exact putL_len _|exact len_map (by assumption)|exact len_map rfl)) (by (first|rfl|exact secL_one _|exact dcellL_one _|exact putL_one _|exact one_map (fun _=>rfl) _)) (by (first|rfl|exact secL_bare _|exact dcellL_bare _|exact putL_bare _|exact bare_map (fun _=>rfl) _)) ?_|refine PWops.idxM rfl rfl rfl rfl rfl rfl rfl rfl (by (first|omega|(dsimp only;omega))) ?_|refine PWops.idxP1 rfl rfl rfl rfl rfl rfl rfl rfl (by (first|omega|(dsimp only;omega))) ?_|refine PWops.idxP rfl rfl rfl rfl rfl rfl rfl rfl (by (first|omega|(dsimp only;omega))) ?_|(refine PWops.call rfl rfl rfl (by assumption) ?_)|(refine PWops.callR rfl rfl (by assumption) (by (first|exact trivial|exact ⟨⟨rfl,rfl⟩,trivial⟩|exact ⟨⟨rfl,rfl⟩,⟨rfl,rfl⟩,trivial⟩|exact ⟨⟨rfl,rfl⟩,⟨rfl,rfl⟩,⟨rfl,rfl⟩,trivial⟩|exact ⟨⟨rfl,rfl⟩,⟨rfl,rfl⟩,⟨rfl,rfl⟩,⟨rfl,rfl⟩,trivial⟩|exact ⟨⟨rfl,rfl⟩,⟨rfl,rfl⟩,⟨rfl,rfl⟩,⟨rfl,rfl⟩,⟨rfl,rfl⟩,trivial⟩|exact ⟨⟨rfl,rfl⟩,⟨rfl,rfl⟩,⟨rfl,rfl⟩,⟨rfl,rfl⟩,⟨rfl,rfl⟩,⟨rfl,rfl⟩,trivial⟩|exact ⟨⟨rfl,rfl⟩,⟨rfl,rfl⟩,⟨rfl,rfl⟩,⟨rfl,rfl⟩,⟨rfl,rfl⟩,⟨rfl,rfl⟩,⟨rfl,rfl⟩,trivial⟩|exact ⟨⟨rfl,rfl⟩,⟨rfl,rfl⟩,⟨rfl,rfl⟩,⟨rfl,rfl⟩,⟨rfl,rfl⟩,⟨rfl,rfl⟩,⟨rfl,rfl⟩,⟨rfl,rfl⟩,trivial⟩)) (by (first|exact trivial|exact ⟨⟨rfl,rfl⟩,trivial⟩|exact ⟨⟨rfl,rfl⟩,⟨rfl,rfl⟩,trivial⟩|exact ⟨⟨rfl,rfl⟩,⟨rfl,rfl⟩,⟨rfl,rfl⟩,trivial⟩|exact ⟨⟨rfl,rfl⟩,⟨rfl,rfl⟩,⟨rfl,rfl⟩,⟨rfl,rfl⟩,trivial⟩|exact ⟨⟨rfl,rfl⟩,⟨rfl,rfl⟩,⟨rfl,rfl⟩,⟨rfl,rfl⟩,⟨rfl,rfl⟩,trivial⟩|exact ⟨⟨rfl,rfl⟩,⟨rfl,rfl⟩,⟨rfl,rfl⟩,⟨rfl,rfl⟩,⟨rfl,rfl⟩,⟨rfl,rfl⟩,trivial⟩|exact ⟨⟨rfl,rfl⟩,⟨rfl,rfl⟩,⟨rfl,rfl⟩,⟨rfl,rfl⟩,⟨rfl,rfl⟩,⟨rfl,rfl⟩,⟨rfl,rfl⟩,trivial⟩|exact ⟨⟨rfl,rfl⟩,⟨rfl,rfl⟩,⟨rfl,rfl⟩,⟨rfl,rfl⟩,⟨rfl,rfl⟩,⟨rfl,rfl⟩,⟨rfl,rfl⟩,⟨rfl,rfl⟩,trivial⟩)) rfl (by first|exact .inl rfl|exact .inr (fun _ _=>rfl)) ?_)|(refine PWops.callH rfl rfl (by assumption) (by (first|exact trivial|exact ⟨⟨rfl,rfl⟩,trivial⟩|exact ⟨⟨rfl,rfl⟩,⟨rfl,rfl⟩,trivial⟩|exact ⟨⟨rfl,rfl⟩,⟨rfl,rfl⟩,⟨rfl,rfl⟩,trivial⟩|exact ⟨⟨rfl,rfl⟩,⟨rfl,rfl⟩,⟨rfl,rfl⟩,⟨rfl,rfl⟩,trivial⟩|exact ⟨⟨rfl,rfl⟩,⟨rfl,rfl⟩,⟨rfl,rfl⟩,⟨rfl,rfl⟩,⟨rfl,rfl⟩,trivial⟩|exact ⟨⟨rfl,rfl⟩,⟨rfl,rfl⟩,⟨rfl,rfl⟩,⟨rfl,rfl⟩,⟨rfl,rfl⟩,⟨rfl,rfl⟩,trivial⟩|exact ⟨⟨rfl,rfl⟩,⟨rfl,rfl⟩,⟨rfl,rfl⟩,⟨rfl,rfl⟩,⟨rfl,rfl⟩,⟨rfl,rfl⟩,⟨rfl,rfl⟩,trivial⟩|exact ⟨⟨rfl,rfl⟩,⟨rfl,rfl⟩,⟨rfl,rfl⟩,⟨rfl,rfl⟩,⟨rfl,rfl⟩,⟨rfl,rfl⟩,⟨rfl,rfl⟩,⟨rfl,rfl⟩,trivial⟩)) (by (first|exact trivial|exact ⟨⟨rfl,rfl⟩,trivial⟩|exact ⟨⟨rfl,rfl⟩,⟨rfl,rfl⟩,trivial⟩|exact ⟨⟨rfl,rfl⟩,⟨rfl,rfl⟩,⟨rfl,rfl⟩,trivial⟩|exact ⟨⟨rfl,rfl⟩,⟨rfl,rfl⟩,⟨rfl,rfl⟩,⟨rfl,rfl⟩,trivial⟩|exact ⟨⟨rfl,rfl⟩,⟨rfl,rfl⟩,⟨rfl,rfl⟩,⟨rfl,rfl⟩,⟨rfl,rfl⟩,trivial⟩|exact ⟨⟨rfl,rfl⟩,⟨rfl,rfl⟩,⟨rfl,rfl⟩,⟨rfl,rfl⟩,⟨rfl,rfl⟩,⟨rfl,rfl⟩,trivial⟩|exact ⟨⟨rfl,rfl⟩,⟨rfl,rfl⟩,⟨rfl,rfl⟩,⟨rfl,rfl⟩,⟨rfl,rfl⟩,⟨rfl,rfl⟩,⟨rfl,rfl⟩,trivial⟩|exact ⟨⟨rfl,rfl⟩,⟨rfl,rfl⟩,⟨rfl,rfl⟩,⟨rfl,rfl⟩,⟨rfl,rfl⟩,⟨rfl,rfl⟩,⟨rfl,rfl⟩,⟨rfl,rfl⟩,trivial⟩)) rfl (by first|exact .inl rfl|exact .inr (fun _ _=>rfl)) ?_)|refine PWops.idxZ1 rfl rfl rfl rfl rfl rfl rfl rfl (by (first|omega|(dsimp only;omega))) ?_|refine PWops.idxZ rfl rfl rfl rfl rfl rfl rfl rfl (by (first|omega|(dsimp only;omega))) ?_|refine PWops.ld rfl rfl rfl rfl rfl rfl rfl rfl rfl ?_|refine PWops.slcL rfl rfl rfl rfl rfl rfl rfl rfl (by (first|omega|(dsimp only;omega))) ?_|refine PWops.slcH rfl rfl rfl rfl rfl rfl rfl rfl (by (first|omega|(dsimp only;omega))) ?_|refine PWops.slcRL rfl rfl rfl rfl rfl rfl rfl rfl (by intro;rfl) (by (first|omega|(dsimp only;omega))) ?_|refine PWops.slcRH rfl rfl rfl rfl rfl rfl rfl rfl (by intro;rfl) (by (first|omega|(dsimp only;omega))) ?_|refine PWops.slcM rfl rfl rfl rfl rfl rfl rfl rfl rfl (by (first|omega|(dsimp only;omega))) ?_|refine PWops.ldM rfl rfl rfl rfl rfl rfl rfl (by (first|omega|(dsimp only;omega))) rfl ?_|refine PWops.ldR rfl rfl rfl rfl rfl rfl rfl (by (first|exact secL_len|exact dcellL_len|exact putL_len|(intro;rfl))) (by (first|omega|(dsimp only;omega))) rfl rfl ?_|refine PWops.ldRA rfl rfl rfl rfl rfl rfl (by intro;rfl) (by (first|omega|(dsimp only;omega))) rfl ?_|refine PWops.slcP rfl rfl rfl rfl rfl rfl rfl rfl rfl (by decide) ?_|refine PWops.idxE1 rfl rfl rfl rfl rfl rfl rfl rfl (by (first|omega|(dsimp only;omega))) ?_|refine PWops.ldG rfl rfl rfl rfl rfl rfl (by (first|rfl|exact secL_len _|exact dcellL_len _|exact putL_len _|exact len_map (by assumption)|exact len_map rfl)) (by (first|rfl|exact secL_bare _|exact dcellL_bare _|exact putL_bare _|exact bare_map (fun _=>rfl) _)) ?_|refine PWops.ldMB rfl rfl rfl rfl rfl rfl rfl rfl (by (first|omega|(dsimp only;omega))) rfl rfl ?_|refine PWops.stMB rfl rfl rfl rfl rfl rfl rfl rfl rfl rfl (by (first|omega|(dsimp only;omega))) ?_|refine PWops.idxV rfl rfl rfl rfl rfl rfl rfl rfl (by (first|omega|(dsimp only;omega))) rfl ?_));exact hHold.out):p:=h ⟨k⟩
theorem jw0 {p q:Prop} (k:q) (h:Hold2 q→p:=by intro hHold;((repeat (first|(with_reducible first|refine thenJ ?_|refine thenJ_ret ?_|refine thenJ_exit ?_|refine blockJ ?_|refine blockJ_exit ?_|refine blockJ_ret ?_|refine blockJ_other (by decide) ?_|refine loopJ_exit ?_|refine loopJ_ret ?_|refine PWJ.seq ?_|refine PWJ.block ?_|refine PWJ.skip ?_|refine PWJ.ret ?_|refine PWJ.exit ?_|refine PWJ.condT rfl ?_|refine PWJ.condF rfl ?_)|refine PWJ.condT rfl ?_|refine PWJ.condF rfl ?_)));exact hHold.out):p:=h ⟨k⟩
theorem li0 {p:Prop} (h:p:=by (repeat (first|exact li_nil|exact lb_nil|refine lb_cons ?_ ?_|refine li_cons ?_ ?_|exact dB_lowI (by first|simp [ResIds]|simp [ResIds,dG,dMs,jG]|simp [ResIds,dG,dMs,crG,crM]|simp [ResIds,dG,dMs]) (by first|simp [ResIds]|simp [ResIds,dG,dMs,jG]|simp [ResIds,dG,dMs,crG,crM]|simp [ResIds,dG,dMs]) _|exact li_low (dC_low _)|exact LowI.ptr _ _ (by first|simp [ResIds]|simp [ResIds,dG,dMs,jG]|simp [ResIds,dG,dMs,crG,crM]|simp [ResIds,dG,dMs])|exact LowI.mref _ (by first|simp [ResIds]|simp [ResIds,dG,dMs,jG]|simp [ResIds,dG,dMs,crG,crM]|simp [ResIds,dG,dMs])|exact LowI.msl _ _ _ _ (by first|simp [ResIds]|simp [ResIds,dG,dMs,jG]|simp [ResIds,dG,dMs,crG,crM]|simp [ResIds,dG,dMs])|exact LowI.val _|exact LowI.nilsl|exact Low.lowI (low_pputs _)|exact Low.lowI (psec_low _)|exact li_low (secL_low _)|exact li_low (by assumption)|refine LowI.agg _ ?_|refine LowI.fn _ _ ?_|refine LowI.tup _ ?_|refine LowI.sl _ _ _ _ ?_))):p:=h
theorem rq0 {p:Prop} (h:p:=by (first|exact .inl (.ptr _ _ rfl)|exact .inl (.msl _ _ _ _ rfl)|exact .inl (.mref _ rfl)|exact .inl (.low _ (by exact lw))|exact .inr (.inl (.low _ (by exact lw)))|exact .inr (.inr ⟨_,_,rfl,rfl⟩))):p:=h
theorem rl0 {p:Prop} (h:p:=by (first|exact RenQL.low (by first|assumption|exact hlow _|exact hlow _ _|exact low_map (fun _=>Low.val _) _)|exact RenQL.lowE (by assumption) (low_map (fun _=>Low.val _) _)|((repeat (refine RenQL.cons (by exact rq0) ?_));exact RenQL.nil))):p:=h
theorem lt0 {p:Prop} (h:p:=by (repeat (first|exact lowT_bot|refine lowT_put ?_ (by first|exact .ptr _ _ rfl|exact .mref _ rfl|exact Low.lowI (by exact lw))|refine lowT_setb ?_|refine lowT_setm ?_))):p:=h
theorem ow0 {p:Prop} (h:p:=by (repeat (first|exact ownsS_bot|refine OwnsS.put ?_ rfl|refine OwnsS.setb ?_ (by first|exact ownsX_nil|exact ownsX_cons (ownsX_no rfl) ownsX_nil|exact ownsX_cons (ownsX_no rfl) (ownsX_cons (ownsX_no rfl) ownsX_nil)|assumption)))):p:=h
theorem kn0 {p:Prop} (h:p:=by (repeat (first|exact kn_bot|refine kn_put ?_|refine kn_setb ?_|refine kn_setm ?_))):p:=h
theorem sbF {p:Prop} (h:p:=by (refine Sub.same ?_;exact sbrF)):p:=h
theorem sbrF {p:Prop} (h:p:=by (repeat (first|exact SubR.bot|((with_reducible refine SubR.isp ?_);refine SubR.put ?_ (by exact rq0))|((with_reducible refine SubR.isb ?_);refine SubR.setb ?_ rfl rfl (by first|exact rq_fn1 rfl|exact rl0))))):p:=h
theorem hok0 {p:Prop} (h:p:=by (refine ⟨by exact li0,by exact li0,by first|exact lm_nil|exact lm_cons (dM_low _) lm_nil,?_,by exact li0,by first|exact lm_nil|exact lm_cons (dM_low _) lm_nil,by first|simp|simp [jG,dG],by first|simp|simp [dMs]⟩;exact li0)):p:=h
theorem ren0 {p:Prop} (h:p:=by (repeat (first|exact RenL.nil|exact RenB.nil|exact RenMs.nil|exact RenMs.cons _ _ _ _ _ (RenM.low (dM_low _)) RenMs.nil|refine RenB.cons _ _ _ _ _ ?_ ?_|exact RenL.low (dC_low _)|refine RenL.cons ?_ ?_|exact Ren.ptr _ _ (by first|simp [ResIds]|simp [ResIds,dG,dMs,jG]|simp [ResIds,dG,dMs,crG,crM]|simp [ResIds,dG,dMs])|exact Ren.mref _ (by first|simp [ResIds]|simp [ResIds,dG,dMs,jG]|simp [ResIds,dG,dMs,crG,crM]|simp [ResIds,dG,dMs])|exact Ren.msl _ _ _ _ (by first|simp [ResIds]|simp [ResIds,dG,dMs,jG]|simp [ResIds,dG,dMs,crG,crM]|simp [ResIds,dG,dMs])|exact Ren.low _ (Low.val _)|exact Ren.low _ (low_pputs _)|exact Ren.low _ (psec_low _)|exact RenL.low (by assumption)|refine ren_agg ?_|refine ren_fn ?_|refine ren_sl ?_))):p:=h
theorem sbr0 {p:Prop} (h:p:=by (repeat (first|exact SubR.bot|((with_reducible refine SubR.isp ?_);refine SubR.put ?_ (by exact rq0))|((with_reducible refine SubR.isb ?_);refine SubR.setb ?_ rfl rfl (by exact rl0))|((with_reducible refine SubR.ism ?_);refine SubR.setm ?_ rfl rfl (by (first|exact ⟨rfl,rfl,rfl,rfl,rfl⟩|exact RenM.low (by first|assumption|exact hlowm _|exact hlowm _ _))))))):p:=h
structure Hold (q:Prop):Prop where
 out:q
theorem wk {p q:Prop} (k:q) (h:Hold q→p:=by intro hHold;(repeat (first|(with_reducible first|refine PW.seq ?_|refine PW.block ?_|refine PW.skip ?_|refine PW.exit ?_|refine PW.ret ?_|refine thenP ?_|refine thenP_exit ?_|refine thenP_ret ?_|refine blockP ?_|refine blockP_exit ?_|refine blockP_ret ?_|refine loopP_exit ?_|refine loopP_ret ?_|refine loopU_exit ?_|refine loopU_ret ?_)|((with_reducible refine PWops.idd ?_);first|(first|refine PWops.cvI rfl rfl rfl rfl (by (first|omega|(dsimp only;omega))) (by (first|omega|(dsimp only;omega))) rfl ?_|refine PWops.stepA rfl ?_|refine PWops.doneI rfl ?_|refine PWops.boolK true rfl rfl rfl rfl (by (first|rfl|assumption|(simp only [decide_eq_true_eq,decide_eq_false_iff_not,bne_iff_ne,beq_iff_eq,beq_eq_false_iff_ne,bne_eq_false_iff_eq,ne_eq];omega))) rfl ?_|refine PWops.boolK false rfl rfl rfl rfl (by (first|rfl|assumption|(simp only [decide_eq_true_eq,decide_eq_false_iff_not,bne_iff_ne,beq_iff_eq,beq_eq_false_iff_ne,bne_eq_false_iff_eq,ne_eq];omega))) rfl ?_|refine PWops.fitsK rfl rfl rfl rfl (by (first|omega|(dsimp only;omega))) (by (first|omega|(dsimp only;omega))) rfl ?_|refine PWops.remK rfl rfl rfl rfl (by (first|omega|(dsimp only;omega))) rfl ?_|refine PWops.quoK rfl rfl rfl rfl (by (first|omega|(dsimp only;omega))) rfl ?_|refine PWops.app rfl rfl rfl rfl rfl rfl rfl rfl (by (first|omega|(dsimp only;omega))) (by (first|omega|(dsimp only;omega))) (by first|rfl|exact secL_one _|exact putL_one _|exact one_pint _|exact one_pstr _|exact one_pbyte _|exact one_pattrs _) ?_|refine PWops.app0 rfl rfl rfl rfl rfl rfl rfl rfl (by (first|omega|(dsimp only;omega))) (by (first|omega|(dsimp only;omega))) (by first|rfl|exact secL_one _|exact putL_one _|exact one_pint _|exact one_pstr _|exact one_pbyte _|exact one_pattrs _) ?_|refine PWops.idx1 rfl rfl rfl rfl rfl rfl rfl rfl (by (first|omega|(dsimp only;omega))) ?_|refine PWops.idx rfl rfl rfl rfl rfl rfl rfl rfl (by (first|omega|(dsimp only;omega))) ?_|refine PWops.ld rfl rfl rfl rfl rfl rfl rfl (by assumption) rfl ?_|refine PWops.ldA rfl rfl rfl rfl rfl rfl (by (first|omega|(dsimp only;omega))) (by assumption) ?_|refine PWops.str rfl rfl rfl rfl rfl rfl rfl rfl rfl rfl rfl ?_)|(first|refine PWops.arU rfl rfl rfl rfl rfl rfl ?_|refine PWops.boxA rfl rfl rfl rfl rfl (by (first|rfl|exact secL_one _|exact dcellL_one _|exact putL_one _|exact one_map (fun _=>rfl) _)) (by (first|rfl|exact secL_bare _|exact dcellL_bare _|exact putL_bare _|exact bare_map (fun _=>rfl) _)) ?_|refine PWops.litA rfl rfl rfl rfl rfl rfl rfl (by (first|rfl|exact secL_len _|exact dcellL_len _|exact putL_len _|exact len_map (by assumption)|exact len_map rfl)) rfl rfl rfl (by (first|rfl|exact secL_one _|exact dcellL_one _|exact putL_one _|exact one_map (fun _=>rfl) _)) (by (first|rfl|exact secL_bare _|exact dcellL_bare _|exact putL_bare _|exact bare_map (fun _=>rfl) _)) ?_|refine PWops.shlK rfl rfl rfl rfl rfl rfl (by (first|omega|(dsimp only;omega)|decide)) ?_|refine PWops.shrK rfl rfl rfl rfl rfl rfl (by (first|omega|(dsimp only;omega)|decide)) ?_|refine PWops.ldBC rfl rfl rfl rfl rfl rfl rfl rfl (by (first|exact secL_len|exact dcellL_len|exact putL_len|(intro;rfl))) (by (first|omega|(dsimp only;omega))) (by (first|rfl|exact dcellL_64 _)) rfl ?_|refine PWops.ldRB rfl rfl rfl rfl rfl rfl (by (first|exact secL_len|exact dcellL_len|exact putL_len|(intro;rfl))) (by (first|omega|(dsimp only;omega))) (by (first|exact secL_bare|exact dcellL_bare|exact putL_bare|(intro;rfl))) ?_|refine PWops.ldSec rfl rfl rfl rfl rfl rfl rfl (by first|with_reducible rfl|with_reducible exact dC_flat _) (by rfl) (by (first|omega|(dsimp only;omega))) ?_|refine PWops.ldBR rfl rfl rfl rfl rfl rfl rfl (by (first|exact secL_len|exact dcellL_len|exact putL_len|(intro;rfl))) (by (first|omega|(dsimp only;omega))) (by (first|exact secL_bare _|exact dcellL_bare _|exact putL_bare _|rfl)) ?_|refine PWops.lkp rfl rfl rfl rfl rfl rfl rfl rfl rfl rfl rfl (by assumption) ?_|refine PWops.ldAll rfl rfl rfl rfl rfl rfl rfl (by (first|rfl|exact secL_len _|exact dcellL_len _|exact putL_len _|exact len_map (by assumption)|exact len_map rfl)) (by (first|rfl|exact secL_bare _|exact dcellL_bare _|exact putL_bare _|exact bare_map (fun _=>rfl) _)) ?_|refine PWops.stAll rfl rfl rfl rfl rfl rfl rfl rfl rfl (by (first|rfl|exact secL_len _|exact dcellL_len _|exact putL_len _|exact len_map (by assumption)|exact len_map rfl)) (by (first|rfl|exact secL_len _|exact dcellL_len _|exact putL_len _|exact len_map (by assumption)|exact len_map rfl)) (by (first|rfl|exact secL_one _|exact dcellL_one _|exact putL_one _|exact one_map (fun _=>rfl) _)) (by (first|rfl|exact secL_bare _|exact dcellL_bare _|exact putL_bare _|exact bare_map (fun _=>rfl) _)) ?_|refine PWops.idxM rfl rfl rfl rfl rfl rfl rfl rfl (by (first|omega|(dsimp only;omega))) ?_|refine PWops.idxP1 rfl rfl rfl rfl rfl rfl rfl rfl (by (first|omega|(dsimp only;omega))) ?_|refine PWops.idxP rfl rfl rfl rfl rfl rfl rfl rfl (by (first|omega|(dsimp only;omega))) ?_|(refine PWops.call rfl rfl rfl (by assumption) ?_)|(refine PWops.callR rfl rfl (by assumption) (by (first|exact trivial|exact ⟨⟨rfl,rfl⟩,trivial⟩|exact ⟨⟨rfl,rfl⟩,⟨rfl,rfl⟩,trivial⟩|exact ⟨⟨rfl,rfl⟩,⟨rfl,rfl⟩,⟨rfl,rfl⟩,trivial⟩|exact ⟨⟨rfl,rfl⟩,⟨rfl,rfl⟩,⟨rfl,rfl⟩,⟨rfl,rfl⟩,trivial⟩|exact ⟨⟨rfl,rfl⟩,⟨rfl,rfl⟩,⟨rfl,rfl⟩,⟨rfl,rfl⟩,⟨rfl,rfl⟩,trivial⟩|exact ⟨⟨rfl,rfl⟩,⟨rfl,rfl⟩,⟨rfl,rfl⟩,⟨rfl,rfl⟩,⟨rfl,rfl⟩,⟨rfl,rfl⟩,trivial⟩|exact ⟨⟨rfl,rfl⟩,⟨rfl,rfl⟩,⟨rfl,rfl⟩,⟨rfl,rfl⟩,⟨rfl,rfl⟩,⟨rfl,rfl⟩,⟨rfl,rfl⟩,trivial⟩|exact ⟨⟨rfl,rfl⟩,⟨rfl,rfl⟩,⟨rfl,rfl⟩,⟨rfl,rfl⟩,⟨rfl,rfl⟩,⟨rfl,rfl⟩,⟨rfl,rfl⟩,⟨rfl,rfl⟩,trivial⟩)) (by (first|exact trivial|exact ⟨⟨rfl,rfl⟩,trivial⟩|exact ⟨⟨rfl,rfl⟩,⟨rfl,rfl⟩,trivial⟩|exact ⟨⟨rfl,rfl⟩,⟨rfl,rfl⟩,⟨rfl,rfl⟩,trivial⟩|exact ⟨⟨rfl,rfl⟩,⟨rfl,rfl⟩,⟨rfl,rfl⟩,⟨rfl,rfl⟩,trivial⟩|exact ⟨⟨rfl,rfl⟩,⟨rfl,rfl⟩,⟨rfl,rfl⟩,⟨rfl,rfl⟩,⟨rfl,rfl⟩,trivial⟩|exact ⟨⟨rfl,rfl⟩,⟨rfl,rfl⟩,⟨rfl,rfl⟩,⟨rfl,rfl⟩,⟨rfl,rfl⟩,⟨rfl,rfl⟩,trivial⟩|exact ⟨⟨rfl,rfl⟩,⟨rfl,rfl⟩,⟨rfl,rfl⟩,⟨rfl,rfl⟩,⟨rfl,rfl⟩,⟨rfl,rfl⟩,⟨rfl,rfl⟩,trivial⟩|exact ⟨⟨rfl,rfl⟩,⟨rfl,rfl⟩,⟨rfl,rfl⟩,⟨rfl,rfl⟩,⟨rfl,rfl⟩,⟨rfl,rfl⟩,⟨rfl,rfl⟩,⟨rfl,rfl⟩,trivial⟩)) rfl (by first|exact .inl rfl|exact .inr (fun _ _=>rfl)) ?_)|(refine PWops.callH rfl rfl (by assumption) (by (first|exact trivial|exact ⟨⟨rfl,rfl⟩,trivial⟩|exact ⟨⟨rfl,rfl⟩,⟨rfl,rfl⟩,trivial⟩|exact ⟨⟨rfl,rfl⟩,⟨rfl,rfl⟩,⟨rfl,rfl⟩,trivial⟩|exact ⟨⟨rfl,rfl⟩,⟨rfl,rfl⟩,⟨rfl,rfl⟩,⟨rfl,rfl⟩,trivial⟩|exact ⟨⟨rfl,rfl⟩,⟨rfl,rfl⟩,⟨rfl,rfl⟩,⟨rfl,rfl⟩,⟨rfl,rfl⟩,trivial⟩|exact ⟨⟨rfl,rfl⟩,⟨rfl,rfl⟩,⟨rfl,rfl⟩,⟨rfl,rfl⟩,⟨rfl,rfl⟩,⟨rfl,rfl⟩,trivial⟩|exact ⟨⟨rfl,rfl⟩,⟨rfl,rfl⟩,⟨rfl,rfl⟩,⟨rfl,rfl⟩,⟨rfl,rfl⟩,⟨rfl,rfl⟩,⟨rfl,rfl⟩,trivial⟩|exact ⟨⟨rfl,rfl⟩,⟨rfl,rfl⟩,⟨rfl,rfl⟩,⟨rfl,rfl⟩,⟨rfl,rfl⟩,⟨rfl,rfl⟩,⟨rfl,rfl⟩,⟨rfl,rfl⟩,trivial⟩)) (by (first|exact trivial|exact ⟨⟨rfl,rfl⟩,trivial⟩|exact ⟨⟨rfl,rfl⟩,⟨rfl,rfl⟩,trivial⟩|exact ⟨⟨rfl,rfl⟩,⟨rfl,rfl⟩,⟨rfl,rfl⟩,trivial⟩|exact ⟨⟨rfl,rfl⟩,⟨rfl,rfl⟩,⟨rfl,rfl⟩,⟨rfl,rfl⟩,trivial⟩|exact ⟨⟨rfl,rfl⟩,⟨rfl,rfl⟩,⟨rfl,rfl⟩,⟨rfl,rfl⟩,⟨rfl,rfl⟩,trivial⟩|exact ⟨⟨rfl,rfl⟩,⟨rfl,rfl⟩,⟨rfl,rfl⟩,⟨rfl,rfl⟩,⟨rfl,rfl⟩,⟨rfl,rfl⟩,trivial⟩|exact ⟨⟨rfl,rfl⟩,⟨rfl,rfl⟩,⟨rfl,rfl⟩,⟨rfl,rfl⟩,⟨rfl,rfl⟩,⟨rfl,rfl⟩,⟨rfl,rfl⟩,trivial⟩|exact ⟨⟨rfl,rfl⟩,⟨rfl,rfl⟩,⟨rfl,rfl⟩,⟨rfl,rfl⟩,⟨rfl,rfl⟩,⟨rfl,rfl⟩,⟨rfl,rfl⟩,⟨rfl,rfl⟩,trivial⟩)) rfl (by first|exact .inl rfl|exact .inr (fun _ _=>rfl)) ?_)|refine PWops.idxZ1 rfl rfl rfl rfl rfl rfl rfl rfl (by (first|omega|(dsimp only;omega))) ?_|refine PWops.idxZ rfl rfl rfl rfl rfl rfl rfl rfl (by (first|omega|(dsimp only;omega))) ?_|refine PWops.ld rfl rfl rfl rfl rfl rfl rfl rfl rfl ?_|refine PWops.slcL rfl rfl rfl rfl rfl rfl rfl rfl (by (first|omega|(dsimp only;omega))) ?_|refine PWops.slcH rfl rfl rfl rfl rfl rfl rfl rfl (by (first|omega|(dsimp only;omega))) ?_|refine PWops.slcRL rfl rfl rfl rfl rfl rfl rfl rfl (by intro;rfl) (by (first|omega|(dsimp only;omega))) ?_|refine PWops.slcRH rfl rfl rfl rfl rfl rfl rfl rfl (by intro;rfl) (by (first|omega|(dsimp only;omega))) ?_|refine PWops.slcM rfl rfl rfl rfl rfl rfl rfl rfl rfl (by (first|omega|(dsimp only;omega))) ?_|refine PWops.ldM rfl rfl rfl rfl rfl rfl rfl (by (first|omega|(dsimp only;omega))) rfl ?_|refine PWops.ldR rfl rfl rfl rfl rfl rfl rfl (by (first|exact secL_len|exact dcellL_len|exact putL_len|(intro;rfl))) (by (first|omega|(dsimp only;omega))) rfl rfl ?_|refine PWops.ldRA rfl rfl rfl rfl rfl rfl (by intro;rfl) (by (first|omega|(dsimp only;omega))) rfl ?_|refine PWops.slcP rfl rfl rfl rfl rfl rfl rfl rfl rfl (by decide) ?_|refine PWops.idxE1 rfl rfl rfl rfl rfl rfl rfl rfl (by (first|omega|(dsimp only;omega))) ?_|refine PWops.ldG rfl rfl rfl rfl rfl rfl (by (first|rfl|exact secL_len _|exact dcellL_len _|exact putL_len _|exact len_map (by assumption)|exact len_map rfl)) (by (first|rfl|exact secL_bare _|exact dcellL_bare _|exact putL_bare _|exact bare_map (fun _=>rfl) _)) ?_|refine PWops.ldMB rfl rfl rfl rfl rfl rfl rfl rfl (by (first|omega|(dsimp only;omega))) rfl rfl ?_|refine PWops.stMB rfl rfl rfl rfl rfl rfl rfl rfl rfl rfl (by (first|omega|(dsimp only;omega))) ?_|refine PWops.idxV rfl rfl rfl rfl rfl rfl rfl rfl (by (first|omega|(dsimp only;omega))) rfl ?_))|(first|((with_reducible refine PW.idd ?_);(first|refine PW.region typeTab_ok (by kernel_rfl) ?_|refine PW.draw typeTab_ok (by kernel_rfl) (by kernel_rfl) (by kernel_rfl) ?_|refine PW.condT rfl ?_|refine PW.condF rfl ?_|refine PW.condTe rfl (by assumption) ?_|refine PW.condFe rfl (by assumption) ?_|refine blockP_other (by decide) ?_))|with_reducible refine blockP_other (by decide) ?_)));exact hHold.out):p:=h ⟨k⟩
theorem wg {p q:Prop} (k:q) (h:Hold q→p:=by intro hHold;(repeat ((with_reducible refine PWops.idd ?_);first|(first|refine PWops.cvI rfl rfl rfl rfl (by (first|omega|(dsimp only;omega))) (by (first|omega|(dsimp only;omega))) rfl ?_|refine PWops.stepA rfl ?_|refine PWops.doneI rfl ?_|refine PWops.boolK true rfl rfl rfl rfl (by (first|rfl|assumption|(simp only [decide_eq_true_eq,decide_eq_false_iff_not,bne_iff_ne,beq_iff_eq,beq_eq_false_iff_ne,bne_eq_false_iff_eq,ne_eq];omega))) rfl ?_|refine PWops.boolK false rfl rfl rfl rfl (by (first|rfl|assumption|(simp only [decide_eq_true_eq,decide_eq_false_iff_not,bne_iff_ne,beq_iff_eq,beq_eq_false_iff_ne,bne_eq_false_iff_eq,ne_eq];omega))) rfl ?_|refine PWops.fitsK rfl rfl rfl rfl (by (first|omega|(dsimp only;omega))) (by (first|omega|(dsimp only;omega))) rfl ?_|refine PWops.remK rfl rfl rfl rfl (by (first|omega|(dsimp only;omega))) rfl ?_|refine PWops.quoK rfl rfl rfl rfl (by (first|omega|(dsimp only;omega))) rfl ?_|refine PWops.app rfl rfl rfl rfl rfl rfl rfl rfl (by (first|omega|(dsimp only;omega))) (by (first|omega|(dsimp only;omega))) (by first|rfl|exact secL_one _|exact putL_one _|exact one_pint _|exact one_pstr _|exact one_pbyte _|exact one_pattrs _) ?_|refine PWops.app0 rfl rfl rfl rfl rfl rfl rfl rfl (by (first|omega|(dsimp only;omega))) (by (first|omega|(dsimp only;omega))) (by first|rfl|exact secL_one _|exact putL_one _|exact one_pint _|exact one_pstr _|exact one_pbyte _|exact one_pattrs _) ?_|refine PWops.idx1 rfl rfl rfl rfl rfl rfl rfl rfl (by (first|omega|(dsimp only;omega))) ?_|refine PWops.idx rfl rfl rfl rfl rfl rfl rfl rfl (by (first|omega|(dsimp only;omega))) ?_|refine PWops.ld rfl rfl rfl rfl rfl rfl rfl (by assumption) rfl ?_|refine PWops.ldA rfl rfl rfl rfl rfl rfl (by (first|omega|(dsimp only;omega))) (by assumption) ?_|refine PWops.str rfl rfl rfl rfl rfl rfl rfl rfl rfl rfl rfl ?_)|(first|refine PWops.arU rfl rfl rfl rfl rfl rfl ?_|refine PWops.boxA rfl rfl rfl rfl rfl (by (first|rfl|exact secL_one _|exact dcellL_one _|exact putL_one _|exact one_map (fun _=>rfl) _)) (by (first|rfl|exact secL_bare _|exact dcellL_bare _|exact putL_bare _|exact bare_map (fun _=>rfl) _)) ?_|refine PWops.litA rfl rfl rfl rfl rfl rfl rfl (by (first|rfl|exact secL_len _|exact dcellL_len _|exact putL_len _|exact len_map (by assumption)|exact len_map rfl)) rfl rfl rfl (by (first|rfl|exact secL_one _|exact dcellL_one _|exact putL_one _|exact one_map (fun _=>rfl) _)) (by (first|rfl|exact secL_bare _|exact dcellL_bare _|exact putL_bare _|exact bare_map (fun _=>rfl) _)) ?_|refine PWops.shlK rfl rfl rfl rfl rfl rfl (by (first|omega|(dsimp only;omega)|decide)) ?_|refine PWops.shrK rfl rfl rfl rfl rfl rfl (by (first|omega|(dsimp only;omega)|decide)) ?_|refine PWops.ldBC rfl rfl rfl rfl rfl rfl rfl rfl (by (first|exact secL_len|exact dcellL_len|exact putL_len|(intro;rfl))) (by (first|omega|(dsimp only;omega))) (by (first|rfl|exact dcellL_64 _)) rfl ?_|refine PWops.ldRB rfl rfl rfl rfl rfl rfl (by (first|exact secL_len|exact dcellL_len|exact putL_len|(intro;rfl))) (by (first|omega|(dsimp only;omega))) (by (first|exact secL_bare|exact dcellL_bare|exact putL_bare|(intro;rfl))) ?_|refine PWops.ldSec rfl rfl rfl rfl rfl rfl rfl (by first|with_reducible rfl|with_reducible exact dC_flat _) (by rfl) (by (first|omega|(dsimp only;omega))) ?_|refine PWops.ldBR rfl rfl rfl rfl rfl rfl rfl (by (first|exact secL_len|exact dcellL_len|exact putL_len|(intro;rfl))) (by (first|omega|(dsimp only;omega))) (by (first|exact secL_bare _|exact dcellL_bare _|exact putL_bare _|rfl)) ?_|refine PWops.lkp rfl rfl rfl rfl rfl rfl rfl rfl rfl rfl rfl (by assumption) ?_|refine PWops.ldAll rfl rfl rfl rfl rfl rfl rfl (by (first|rfl|exact secL_len _|exact dcellL_len _|exact putL_len _|exact len_map (by assumption)|exact len_map rfl)) (by (first|rfl|exact secL_bare _|exact dcellL_bare _|exact putL_bare _|exact bare_map (fun _=>rfl) _)) ?_|refine PWops.stAll rfl rfl rfl rfl rfl rfl rfl rfl rfl (by (first|rfl|exact secL_len _|exact dcellL_len _|exact putL_len _|exact len_map (by assumption)|exact len_map rfl)) (by (first|rfl|exact secL_len _|exact dcellL_len _|exact putL_len _|exact len_map (by assumption)|exact len_map rfl)) (by (first|rfl|exact secL_one _|exact dcellL_one _|exact putL_one _|exact one_map (fun _=>rfl) _)) (by (first|rfl|exact secL_bare _|exact dcellL_bare _|exact putL_bare _|exact bare_map (fun _=>rfl) _)) ?_|refine PWops.idxM rfl rfl rfl rfl rfl rfl rfl rfl (by (first|omega|(dsimp only;omega))) ?_|refine PWops.idxP1 rfl rfl rfl rfl rfl rfl rfl rfl (by (first|omega|(dsimp only;omega))) ?_|refine PWops.idxP rfl rfl rfl rfl rfl rfl rfl rfl (by (first|omega|(dsimp only;omega))) ?_|(refine PWops.call rfl rfl rfl (by assumption) ?_)|(refine PWops.callR rfl rfl (by assumption) (by (first|exact trivial|exact ⟨⟨rfl,rfl⟩,trivial⟩|exact ⟨⟨rfl,rfl⟩,⟨rfl,rfl⟩,trivial⟩|exact ⟨⟨rfl,rfl⟩,⟨rfl,rfl⟩,⟨rfl,rfl⟩,trivial⟩|exact ⟨⟨rfl,rfl⟩,⟨rfl,rfl⟩,⟨rfl,rfl⟩,⟨rfl,rfl⟩,trivial⟩|exact ⟨⟨rfl,rfl⟩,⟨rfl,rfl⟩,⟨rfl,rfl⟩,⟨rfl,rfl⟩,⟨rfl,rfl⟩,trivial⟩|exact ⟨⟨rfl,rfl⟩,⟨rfl,rfl⟩,⟨rfl,rfl⟩,⟨rfl,rfl⟩,⟨rfl,rfl⟩,⟨rfl,rfl⟩,trivial⟩|exact ⟨⟨rfl,rfl⟩,⟨rfl,rfl⟩,⟨rfl,rfl⟩,⟨rfl,rfl⟩,⟨rfl,rfl⟩,⟨rfl,rfl⟩,⟨rfl,rfl⟩,trivial⟩|exact ⟨⟨rfl,rfl⟩,⟨rfl,rfl⟩,⟨rfl,rfl⟩,⟨rfl,rfl⟩,⟨rfl,rfl⟩,⟨rfl,rfl⟩,⟨rfl,rfl⟩,⟨rfl,rfl⟩,trivial⟩)) (by (first|exact trivial|exact ⟨⟨rfl,rfl⟩,trivial⟩|exact ⟨⟨rfl,rfl⟩,⟨rfl,rfl⟩,trivial⟩|exact ⟨⟨rfl,rfl⟩,⟨rfl,rfl⟩,⟨rfl,rfl⟩,trivial⟩|exact ⟨⟨rfl,rfl⟩,⟨rfl,rfl⟩,⟨rfl,rfl⟩,⟨rfl,rfl⟩,trivial⟩|exact ⟨⟨rfl,rfl⟩,⟨rfl,rfl⟩,⟨rfl,rfl⟩,⟨rfl,rfl⟩,⟨rfl,rfl⟩,trivial⟩|exact ⟨⟨rfl,rfl⟩,⟨rfl,rfl⟩,⟨rfl,rfl⟩,⟨rfl,rfl⟩,⟨rfl,rfl⟩,⟨rfl,rfl⟩,trivial⟩|exact ⟨⟨rfl,rfl⟩,⟨rfl,rfl⟩,⟨rfl,rfl⟩,⟨rfl,rfl⟩,⟨rfl,rfl⟩,⟨rfl,rfl⟩,⟨rfl,rfl⟩,trivial⟩|exact ⟨⟨rfl,rfl⟩,⟨rfl,rfl⟩,⟨rfl,rfl⟩,⟨rfl,rfl⟩,⟨rfl,rfl⟩,⟨rfl,rfl⟩,⟨rfl,rfl⟩,⟨rfl,rfl⟩,trivial⟩)) rfl (by first|exact .inl rfl|exact .inr (fun _ _=>rfl)) ?_)|(refine PWops.callH rfl rfl (by assumption) (by (first|exact trivial|exact ⟨⟨rfl,rfl⟩,trivial⟩|exact ⟨⟨rfl,rfl⟩,⟨rfl,rfl⟩,trivial⟩|exact ⟨⟨rfl,rfl⟩,⟨rfl,rfl⟩,⟨rfl,rfl⟩,trivial⟩|exact ⟨⟨rfl,rfl⟩,⟨rfl,rfl⟩,⟨rfl,rfl⟩,⟨rfl,rfl⟩,trivial⟩|exact ⟨⟨rfl,rfl⟩,⟨rfl,rfl⟩,⟨rfl,rfl⟩,⟨rfl,rfl⟩,⟨rfl,rfl⟩,trivial⟩|exact ⟨⟨rfl,rfl⟩,⟨rfl,rfl⟩,⟨rfl,rfl⟩,⟨rfl,rfl⟩,⟨rfl,rfl⟩,⟨rfl,rfl⟩,trivial⟩|exact ⟨⟨rfl,rfl⟩,⟨rfl,rfl⟩,⟨rfl,rfl⟩,⟨rfl,rfl⟩,⟨rfl,rfl⟩,⟨rfl,rfl⟩,⟨rfl,rfl⟩,trivial⟩|exact ⟨⟨rfl,rfl⟩,⟨rfl,rfl⟩,⟨rfl,rfl⟩,⟨rfl,rfl⟩,⟨rfl,rfl⟩,⟨rfl,rfl⟩,⟨rfl,rfl⟩,⟨rfl,rfl⟩,trivial⟩)) (by (first|exact trivial|exact ⟨⟨rfl,rfl⟩,trivial⟩|exact ⟨⟨rfl,rfl⟩,⟨rfl,rfl⟩,trivial⟩|exact ⟨⟨rfl,rfl⟩,⟨rfl,rfl⟩,⟨rfl,rfl⟩,trivial⟩|exact ⟨⟨rfl,rfl⟩,⟨rfl,rfl⟩,⟨rfl,rfl⟩,⟨rfl,rfl⟩,trivial⟩|exact ⟨⟨rfl,rfl⟩,⟨rfl,rfl⟩,⟨rfl,rfl⟩,⟨rfl,rfl⟩,⟨rfl,rfl⟩,trivial⟩|exact ⟨⟨rfl,rfl⟩,⟨rfl,rfl⟩,⟨rfl,rfl⟩,⟨rfl,rfl⟩,⟨rfl,rfl⟩,⟨rfl,rfl⟩,trivial⟩|exact ⟨⟨rfl,rfl⟩,⟨rfl,rfl⟩,⟨rfl,rfl⟩,⟨rfl,rfl⟩,⟨rfl,rfl⟩,⟨rfl,rfl⟩,⟨rfl,rfl⟩,trivial⟩|exact ⟨⟨rfl,rfl⟩,⟨rfl,rfl⟩,⟨rfl,rfl⟩,⟨rfl,rfl⟩,⟨rfl,rfl⟩,⟨rfl,rfl⟩,⟨rfl,rfl⟩,⟨rfl,rfl⟩,trivial⟩)) rfl (by first|exact .inl rfl|exact .inr (fun _ _=>rfl)) ?_)|refine PWops.idxZ1 rfl rfl rfl rfl rfl rfl rfl rfl (by (first|omega|(dsimp only;omega))) ?_|refine PWops.idxZ rfl rfl rfl rfl rfl rfl rfl rfl (by (first|omega|(dsimp only;omega))) ?_|refine PWops.ld rfl rfl rfl rfl rfl rfl rfl rfl rfl ?_|refine PWops.slcL rfl rfl rfl rfl rfl rfl rfl rfl (by (first|omega|(dsimp only;omega))) ?_|refine PWops.slcH rfl rfl rfl rfl rfl rfl rfl rfl (by (first|omega|(dsimp only;omega))) ?_|refine PWops.slcRL rfl rfl rfl rfl rfl rfl rfl rfl (by intro;rfl) (by (first|omega|(dsimp only;omega))) ?_|refine PWops.slcRH rfl rfl rfl rfl rfl rfl rfl rfl (by intro;rfl) (by (first|omega|(dsimp only;omega))) ?_|refine PWops.slcM rfl rfl rfl rfl rfl rfl rfl rfl rfl (by (first|omega|(dsimp only;omega))) ?_|refine PWops.ldM rfl rfl rfl rfl rfl rfl rfl (by (first|omega|(dsimp only;omega))) rfl ?_|refine PWops.ldR rfl rfl rfl rfl rfl rfl rfl (by (first|exact secL_len|exact dcellL_len|exact putL_len|(intro;rfl))) (by (first|omega|(dsimp only;omega))) rfl rfl ?_|refine PWops.ldRA rfl rfl rfl rfl rfl rfl (by intro;rfl) (by (first|omega|(dsimp only;omega))) rfl ?_|refine PWops.slcP rfl rfl rfl rfl rfl rfl rfl rfl rfl (by decide) ?_|refine PWops.idxE1 rfl rfl rfl rfl rfl rfl rfl rfl (by (first|omega|(dsimp only;omega))) ?_|refine PWops.ldG rfl rfl rfl rfl rfl rfl (by (first|rfl|exact secL_len _|exact dcellL_len _|exact putL_len _|exact len_map (by assumption)|exact len_map rfl)) (by (first|rfl|exact secL_bare _|exact dcellL_bare _|exact putL_bare _|exact bare_map (fun _=>rfl) _)) ?_|refine PWops.ldMB rfl rfl rfl rfl rfl rfl rfl rfl (by (first|omega|(dsimp only;omega))) rfl rfl ?_|refine PWops.stMB rfl rfl rfl rfl rfl rfl rfl rfl rfl rfl (by (first|omega|(dsimp only;omega))) ?_|refine PWops.idxV rfl rfl rfl rfl rfl rfl rfl rfl (by (first|omega|(dsimp only;omega))) rfl ?_)));(repeat (first|(with_reducible first|refine PW.seq ?_|refine PW.block ?_|refine PW.skip ?_|refine PW.exit ?_|refine PW.ret ?_|refine thenP ?_|refine thenP_exit ?_|refine thenP_ret ?_|refine blockP ?_|refine blockP_exit ?_|refine blockP_ret ?_|refine loopP_exit ?_|refine loopP_ret ?_|refine loopU_exit ?_|refine loopU_ret ?_)|(first|((with_reducible refine PW.idd ?_);(first|refine PW.condT rfl ?_|refine PW.condF rfl ?_|refine PW.condTe rfl (by assumption) ?_|refine PW.condFe rfl (by assumption) ?_|refine blockP_other (by decide) ?_))|with_reducible refine blockP_other (by decide) ?_)));exact hHold.out):p:=h ⟨k⟩
theorem sb {p:Prop} (h:p:=by (refine Sub.same ?_;(repeat (first|exact SubR.bot|((with_reducible refine SubR.isp ?_);refine SubR.put ?_ (by exact rq0))|((with_reducible refine SubR.isb ?_);refine SubR.setb ?_ rfl rfl (by exact rl0))|((with_reducible refine SubR.ism ?_);refine SubR.setm ?_ rfl rfl (by (first|exact ⟨rfl,rfl,rfl,rfl,rfl⟩|exact RenM.low (by first|assumption|exact hlowm _|exact hlowm _ _)))))))):p:=h
theorem lw {p:Prop} (h:p:=by (first|exact low_mapI|exact low_mapS|exact low_mapB|assumption|exact hlow _|exact hlow _ _|exact Low.agg _ (low_map (fun _=>Low.val _) _)|(simp [low_pu32,low_pu64,low_val,low_nilsl,low_sl,low_ep,low_agg,low_tup,low_fn,low_pint,low_pstr,low_pbool,low_pints,low_pstrs,low_pbyte,low_pbytes,hlow];done)|(simp [low_pu32,low_pu64,low_val,low_nilsl,low_sl,low_ep,low_agg,low_tup,low_fn,low_pint,low_pstr,low_pbool,low_pints,low_pstrs,low_pbyte,low_pbytes];done)|simp [low_pu32,low_pu64,low_val,low_nilsl,low_sl,low_ep,low_agg,low_tup,low_fn,low_pint,low_pstr,low_pbool,low_pints,low_pstrs,low_pbyte,low_pbytes,low_pattrs,low_pdefs,low_pschema,low_pentry])):p:=h
theorem Rd.lit {w:World} {g n:Nat} {T:TypeId} {cs:Array Value} (l:List Value) (hg:g=w.heap.size) (hn:n=l.length) (hm:l.length≤1000000) (hcs:cs=l.toArray):Rd (w.alloc (.cells cs T)) (.slice (some ⟨g,0,none⟩) n n) l:=by
 subst hg hn hcs
 exact (Own.lit w l T 0 (Nat.zero_le _) (by unfold maxLen;omega)).rd
def Two (H:Nat) (x y:Value) (v:Value) (w:World):Prop:=∃g,v = .slice (some ⟨g,0,none⟩) 2 2∧H≤g∧w.cell? ⟨g,0,none⟩=some x∧w.cell? ⟨g,1,none⟩=some y
theorem Two.below {H:Nat} {x y v:Value} {w w' : World} (h:Two H x y v w) (hb:Below w.heap.size w w'):Two H x y v w':=by
 obtain ⟨g,h1,h2,h3,h4⟩:=h
 exact ⟨g,h1,h2,below_cell hb h3,below_cell hb h4⟩
theorem Two.rd {H:Nat} {x y v:Value} {w:World} (h:Two H x y v w):Rd w v [x,y]:=by
 obtain ⟨g,rfl,h2,h3,h4⟩:=h
 refine ⟨_,2,g,0,rfl,by simp,by simp [maxLen],fun _=>rfl,fun j u hu=>?_⟩
 match j,hu with
 |0,hu=>simp at hu;subst hu;exact h3
 |1,hu=>simp at hu;subst hu;exact h4
end
end Go.Proofs.YtoamkpgaaanafaaGreat
