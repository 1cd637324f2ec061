/- Out of: AttrD, AttrE, AttrF, StrA. -/
import Derived.Test.YtoamkpgaaanafaaGreatM4
import Derived.Test.YtoamkpgaaanafaaGreatM5
import Derived.Test.YtoamkpgaaanafaaGreatM6
namespace Go.Proofs.YtoamkpgaaanafaaGreat
set_option linter.unusedSimpArgs false
set_option linter.unusedVariables false
set_option linter.unnecessarySimpa false
section
open Go.RowKit
def SmallD (d:PDef):Prop:=d.name.size≤1000∧d.words.length≤1000∧∀s∈d.words,s.size≤1000
theorem def1 (g:Nat) (d:PDef) (wv:Value) (w:World) (hd:DefAt w g 0 d wv) (hs:d.name.size≤1000):Calls Tryz.prog 213 #[.pointer (some ⟨g,0,none⟩)] w (RetB w (!nameB d.name)):=by
 obtain ⟨c0,c1,c2,c3,c4⟩:=hd
 go_enter Tryz.func213,Tryz.ntmps213
 go_wp2_with (go_at_call 214;refine (attrName _ _ (by omega)).mono ?_;rintro e w' ⟨rfl,hb⟩)
 go_ret
 exact RetB.mk rfl hb
theorem def2 (g h:Nat) (d:PDef) (wv:Value) (bf:ByteArray) (w:World) (hd:DefAt w g 0 d wv) (c5:w.cell? ⟨h,0,none⟩=some (.string bf)) :
  Calls Tryz.prog 215 #[.pointer (some ⟨g,0,none⟩), .pointer (some ⟨h,0,none⟩)] w (RetB w (leqB d.name bf)):=by
 obtain ⟨c0,c1,c2,c3,c4⟩:=hd
 go_enter Tryz.func215,Tryz.ntmps215
 go_wp2
 go_ret
 exact RetB.mk rfl (Below.refl _ _)
def kindBad (d:PDef):Bool:=d.kind != 1 && d.kind != 2
theorem def3 (g:Nat) (d:PDef) (wv:Value) (w:World) (hd:DefAt w g 0 d wv):Calls Tryz.prog 216 #[.pointer (some ⟨g,0,none⟩)] w (RetB w (kindBad d)):=by
 obtain ⟨c0,c1,c2,c3,c4⟩:=hd
 cases e:d.kind != 1
 all_goals
  go_enter Tryz.func216,Tryz.ntmps216
  go_wp2
  go_ret
  exact RetB.mk (by simp [kindBad,e]) (Below.refl _ _)
def rangeBad (d:PDef):Bool:=decide (d.lo < -1099511627776) || (decide (1099511627776 < d.hi) || decide (d.hi < d.lo))
theorem def4 (g:Nat) (d:PDef) (wv:Value) (w:World) (hd:DefAt w g 0 d wv):Calls Tryz.prog 217 #[.pointer (some ⟨g,0,none⟩)] w (RetB w (rangeBad d)):=by
 obtain ⟨c0,c1,c2,c3,c4⟩:=hd
 cases e:decide (d.lo < -1099511627776)<;>cases e2:decide (1099511627776 < d.hi)
 all_goals
  go_enter Tryz.func217,Tryz.ntmps217
  go_wp2
  go_ret
  exact RetB.mk (by simp [rangeBad,e,e2]) (Below.refl _ _)
theorem def5 (g:Nat) (d:PDef) (wv:Value) (w:World) (hd:DefAt w g 0 d wv) (hs:Strs w wv d.words) (hl:d.words.length≤1000):Calls Tryz.prog 218 #[.pointer (some ⟨g,0,none⟩)] w (RetB w (decide (0 < d.words.length))):=by
 obtain ⟨c0,c1,c2,c3,c4⟩:=hd
 obtain ⟨a,cap,b,off,rfl,-⟩:=hs.open
 go_enter Tryz.func218,Tryz.ntmps218
 go_wp2
 go_ret
 exact RetB.mk (by first|rfl|simp) (Below.refl _ _)
def formBad (d:PDef):Bool:=d.lo != 0 || d.hi != 0
theorem def6 (g:Nat) (d:PDef) (wv:Value) (w:World) (hd:DefAt w g 0 d wv):Calls Tryz.prog 219 #[.pointer (some ⟨g,0,none⟩)] w (RetB w (formBad d)):=by
 obtain ⟨c0,c1,c2,c3,c4⟩:=hd
 cases e:d.lo != 0
 all_goals
  go_enter Tryz.func219,Tryz.ntmps219
  go_wp2
  go_ret
  exact RetB.mk (by simp [formBad,e]) (Below.refl _ _)
def manyBad (d:PDef):Bool:=decide (d.words.length < 1) || decide (50 < d.words.length)
theorem def7 (g:Nat) (d:PDef) (wv:Value) (w:World) (hd:DefAt w g 0 d wv) (hs:Strs w wv d.words) (hl:d.words.length≤1000):Calls Tryz.prog 220 #[.pointer (some ⟨g,0,none⟩)] w (RetB w (manyBad d)):=by
 obtain ⟨c0,c1,c2,c3,c4⟩:=hd
 obtain ⟨a,cap,b,off,rfl,-⟩:=hs.open
 cases e:decide (d.words.length < 1)<;>cases e2:decide (50 < d.words.length)
 all_goals
  have e' : decide ((d.words.length:Int) < 1)=decide (d.words.length < 1):=by rw [Bool.eq_iff_iff];simp only [decide_eq_true_eq];omega
  have e2' : decide ((50:Int) < (d.words.length:Int))=decide (50 < d.words.length):=by rw [Bool.eq_iff_iff];simp only [decide_eq_true_eq];omega
  rw [e] at e'
  rw [e2] at e2'
  have E:=Lib.hid e
  have E2:=Lib.hid e2
  clear e e2
  go_enter Tryz.func220,Tryz.ntmps220
  go_wp2
  go_ret
  exact RetB.mk (by simp only [manyBad,E.out,E2.out];first|rfl|simp_all) (Below.refl _ _)
theorem callD81:CallOk 222:=fun _ _=>by kernel_rfl
theorem def81 (s:ByteArray) (w:World) (hs:s.size≤1000):Calls Tryz.prog 222 #[.string s] w (RetB w (!nameB s)):=by
 go_enter Tryz.func222,Tryz.ntmps222
 go_wp2_with (go_at_call 214;refine (attrName _ _ (by omega)).mono ?_;rintro e w' ⟨rfl,hb⟩)
 go_ret
 exact RetB.mk rfl hb
theorem def8 (g:Nat) (d:PDef) (wv:Value) (w:World) (hd:DefAt w g 0 d wv) (hs:Strs w wv d.words) (hl:d.words.length≤1000) (hsm:Hid (∀s∈d.words,s.size≤1000)) :
  Calls Tryz.prog 221 #[.pointer (some ⟨g,0,none⟩)] w (RetB w (d.words.any fun s => !nameB s)):=by
 obtain ⟨c0,c1,c2,c3,c4⟩:=hd
 go_enter Tryz.func221,Tryz.ntmps221
 go_wp2_with (go_at_call 104;refine (containsStr _ d.words _ (fun s => !nameB s) _ hs (by omega) callD81 (fun x hx w' _=>def81 x w' (hsm.out x hx))).mono ?_;rintro e w' ⟨rfl,hb⟩)
 go_ret
 exact RetB.mk rfl hb
theorem def9 (g:Nat) (d:PDef) (wv:Value) (w:World) (hd:DefAt w g 0 d wv) (hs:Strs w wv d.words) (hl:d.words.length≤1000):Calls Tryz.prog 223 #[.pointer (some ⟨g,0,none⟩)] w (RetB w (!riseB d.words)):=by
 obtain ⟨c0,c1,c2,c3,c4⟩:=hd
 go_enter Tryz.func223,Tryz.ntmps223
 go_wp2_with (go_at_call 224;refine (attrRising _ d.words _ hs (by omega)).mono ?_;rintro e w' ⟨rfl,n,rfl⟩)
 go_ret
 exact RetB.mk rfl (below_drewN _ _)
theorem cD1:CallOk 213:=fun _ _=>by kernel_rfl
theorem cD2:CallOk 215:=fun _ _=>by kernel_rfl
theorem cD3:CallOk 216:=fun _ _=>by kernel_rfl
theorem cD4:CallOk 217:=fun _ _=>by kernel_rfl
theorem cD5:CallOk 218:=fun _ _=>by kernel_rfl
theorem cD6:CallOk 219:=fun _ _=>by kernel_rfl
theorem cD7:CallOk 220:=fun _ _=>by kernel_rfl
theorem cD8:CallOk 221:=fun _ _=>by kernel_rfl
theorem cD9:CallOk 223:=fun _ _=>by kernel_rfl
theorem flat_get {α:Type} (k:Nat):∀(rows:List (List α)),(∀r∈rows,r.length=k)→∀(i j:Nat) (r:List α) (u:α),rows[i]? = some r→r[j]? = some u→rows.flatten[i * k+j]? = some u
 | [],_,i,j,r,u,h,_=>by simp at h
 |x :: xs,hk,0,j,r,u,h,hu=>by
  simp at h;subst h
  have hj:j < x.length:=(List.getElem?_eq_some_iff.1 hu).1
  rw [List.flatten_cons,Nat.zero_mul,Nat.zero_add,List.getElem?_append_left hj]
  exact hu
 |x :: xs,hk,i+1,j,r,u,h,hu=>by
  have hx:=hk x (by simp)
  rw [List.flatten_cons,List.getElem?_append_right (by rw [hx,Nat.succ_mul];omega),hx]
  have e:(i+1) * k+j - k=i * k+j:=by rw [Nat.succ_mul];omega
  rw [e]
  exact flat_get k xs (fun r hr=>hk r (by simp [hr])) i j r u (by simpa using h) hu
theorem RdS.lit (w:World) (k:Nat) (rows:List (List Value)) (hk:∀r∈rows,r.length=k) (T:TypeId) (hm:rows.length≤maxLen) :
  RdS (w.alloc (.cells rows.flatten.toArray T)) (.slice (some ⟨w.heap.size,0,none⟩) rows.length rows.length) k rows:=by
 refine ⟨_,_,w.heap.size,0,rfl,Nat.le_refl _,hm,fun _=>rfl,fun i j r u hr hu=>?_⟩
 have:=flat_get k rows hk i j r u hr hu
 rw [←this]
 simp [cell_of_row _ _ _ _ _ (0,0) (heap_alloc_new w (.cells rows.flatten.toArray T))]
theorem Rules.lit (w:World) (rs:List Rule) (T:TypeId) (hm:rs.length≤1000):Rules (w.alloc (.cells (rs.map ruleC).flatten.toArray T)) (.slice (some ⟨w.heap.size,0,none⟩) rs.length rs.length) rs:=by
 have:=RdS.lit w 2 (rs.map ruleC) (by intro r hr;obtain ⟨x,_,rfl⟩:=List.mem_map.1 hr;rfl) T (by simp [maxLen];omega)
 simpa [Rules] using this
theorem Rules.mk {w:World} {g n:Nat} {T:TypeId} {cs:Array Value} (rs:List Rule) (hm:rs.length≤1000) (hg:g=w.heap.size) (hn:n=rs.length) (hcs:cs=(rs.map ruleC).flatten.toArray) :
  Rules (w.alloc (.cells cs T)) (.slice (some ⟨g,0,none⟩) n n) rs:=by
 subst hg hn hcs
 exact Rules.lit w rs T hm
def defA (d:PDef) (bf:ByteArray):List (Bool×Int) := [(!nameB d.name,5),(leqB d.name bf,6),(kindBad d,130)]
def defBI (d:PDef):List (Bool×Int) := [(rangeBad d,131),(decide (0 < d.words.length),3)]
def defBW (d:PDef):List (Bool×Int) := [(formBad d,3),(manyBad d,2),(d.words.any fun s => !nameB s,5),(!riseB d.words,6)]
theorem defE_bad (d:PDef) (bf:ByteArray) (h:firstE (defA d bf)≠0):defE d bf=firstE (defA d bf):=by
 unfold defE
 revert h
 simp only [defA,firstE,kindBad]
 cases nameB d.name<;>cases leqB d.name bf<;>simp<;>(try (intro h1 h2;rw [if_neg h1,if_neg h2,if_pos ⟨h1,h2⟩]))
theorem defE_int (d:PDef) (bf:ByteArray) (h:firstE (defA d bf)=0) (hk:d.kind=1):defE d bf=firstE (defBI d):=by
 unfold defE
 revert h
 simp only [defA,firstE,kindBad,defBI,rangeBad]
 cases nameB d.name<;>cases leqB d.name bf<;>simp [hk]
theorem defE_word (d:PDef) (bf:ByteArray) (h:firstE (defA d bf)=0) (hk:d.kind≠1):defE d bf=firstE (defBW d):=by
 unfold defE
 revert h
 simp only [defA,firstE,kindBad,defBW,formBad,manyBad,wordsE]
 cases nameB d.name<;>cases leqB d.name bf<;>simp [hk]
 intro h2'
 cases riseB d.words<;>simp [h2']
theorem DefAt.box (w:World) (d:PDef) (wv:Value) (T:TypeId):DefAt (w.alloc (.cells #[.string d.name, .int .i64 d.kind, .int .i64 d.lo, .int .i64 d.hi,wv] T)) w.heap.size 0 d wv:=by
 refine ⟨?_,?_,?_,?_,?_⟩<;>simp
theorem below_two (w:World) (o p:Obj):Below w.heap.size w ((w.alloc o).alloc p):=(below_alloc w o).trans ((below_alloc _ p).mono (below_alloc w o).size)
theorem below_three (w:World) (o p q:Obj):Below w.heap.size w (((w.alloc o).alloc p).alloc q):=(below_two w o p).trans ((below_alloc _ q).mono (below_two w o p).size)
theorem blift {w w1 w2:World} (h:Below w.heap.size w w1) (h2:Below w1.heap.size w1 w2):Below w.heap.size w w2:=h.trans (h2.mono h.size)
def EnvD (d:PDef) (wv:Value) (bf:ByteArray) (g h:Nat) (w:World):Prop:=DefAt w g 0 d wv∧Strs w wv d.words∧w.cell? ⟨h,0,none⟩=some (.string bf)
theorem EnvD.below {d:PDef} {wv:Value} {bf:ByteArray} {g h:Nat} {w w' : World} (e:EnvD d wv bf g h w) (hb:Below w.heap.size w w'):EnvD d wv bf g h w':=
 ⟨e.1.below hb,e.2.1.below hb,below_cell hb e.2.2⟩
def rulesA (d:PDef) (bf:ByteArray) (g h:Nat):List Rule := [⟨213,#[.pointer (some ⟨g,0,none⟩)],!nameB d.name,5⟩,⟨215,#[.pointer (some ⟨g,0,none⟩), .pointer (some ⟨h,0,none⟩)],leqB d.name bf,6⟩,⟨216,#[.pointer (some ⟨g,0,none⟩)],kindBad d,130⟩]
def rulesBI (d:PDef) (g:Nat):List Rule := [⟨217,#[.pointer (some ⟨g,0,none⟩)],rangeBad d,131⟩,⟨218,#[.pointer (some ⟨g,0,none⟩)],decide (0 < d.words.length),3⟩]
def rulesBW (d:PDef) (g:Nat):List Rule := [⟨219,#[.pointer (some ⟨g,0,none⟩)],formBad d,3⟩,⟨220,#[.pointer (some ⟨g,0,none⟩)],manyBad d,2⟩,⟨221,#[.pointer (some ⟨g,0,none⟩)],d.words.any fun s => !nameB s,5⟩,⟨223,#[.pointer (some ⟨g,0,none⟩)],!riseB d.words,6⟩]
theorem runA {d:PDef} {wv:Value} {bf:ByteArray} {g h:Nat} {w:World} (e:EnvD d wv bf g h w) (hs:SmallD d) (v:Value) (hv:Rules w v (rulesA d bf g h)) :
  Calls Tryz.prog 87 #[v] w (RetI w (firstE (defA d bf))):=by
 refine attrFirst v (rulesA d bf g h) w hv (Nat.le_of_ble_eq_true rfl) ?_ ?_
 ·intro r hr
  simp only [rulesA,List.mem_cons,List.not_mem_nil,or_false] at hr
  rcases hr with rfl|rfl|rfl
  ·exact cD1
  ·exact cD2
  ·exact cD3
 ·intro r hr w' hb
  have e':=e.below hb
  simp only [rulesA,List.mem_cons,List.not_mem_nil,or_false] at hr
  rcases hr with rfl|rfl|rfl
  ·exact def1 g d wv w' e'.1 hs.1
  ·exact def2 g h d wv bf w' e'.1 e'.2.2
  ·exact def3 g d wv w' e'.1
theorem runBI {d:PDef} {wv:Value} {bf:ByteArray} {g h:Nat} {w:World} (e:EnvD d wv bf g h w) (hs:SmallD d) (v:Value) (hv:Rules w v (rulesBI d g)) :
  Calls Tryz.prog 87 #[v] w (RetI w (firstE (defBI d))):=by
 refine attrFirst v (rulesBI d g) w hv (Nat.le_of_ble_eq_true rfl) ?_ ?_
 ·intro r hr
  simp only [rulesBI,List.mem_cons,List.not_mem_nil,or_false] at hr
  rcases hr with rfl|rfl
  ·exact cD4
  ·exact cD5
 ·intro r hr w' hb
  have e':=e.below hb
  simp only [rulesBI,List.mem_cons,List.not_mem_nil,or_false] at hr
  rcases hr with rfl|rfl
  ·exact def4 g d wv w' e'.1
  ·exact def5 g d wv w' e'.1 e'.2.1 hs.2.1
theorem runBW {d:PDef} {wv:Value} {bf:ByteArray} {g h:Nat} {w:World} (e:EnvD d wv bf g h w) (hs:SmallD d) (v:Value) (hv:Rules w v (rulesBW d g)) :
  Calls Tryz.prog 87 #[v] w (RetI w (firstE (defBW d))):=by
 refine attrFirst v (rulesBW d g) w hv (Nat.le_of_ble_eq_true rfl) ?_ ?_
 ·intro r hr
  simp only [rulesBW,List.mem_cons,List.not_mem_nil,or_false] at hr
  rcases hr with rfl|rfl|rfl|rfl
  ·exact cD6
  ·exact cD7
  ·exact cD8
  ·exact cD9
 ·intro r hr w' hb
  have e':=e.below hb
  simp only [rulesBW,List.mem_cons,List.not_mem_nil,or_false] at hr
  rcases hr with rfl|rfl|rfl|rfl
  ·exact def6 g d wv w' e'.1
  ·exact def7 g d wv w' e'.1 e'.2.1 hs.2.1
  ·exact def8 g d wv w' e'.1 e'.2.1 hs.2.1 hs.2.2
  ·exact def9 g d wv w' e'.1 e'.2.1 hs.2.1
theorem EnvD.boxes (d:PDef) (wv:Value) (bf:ByteArray) (w:World) (hs:Strs w wv d.words) (o:Obj) :
  EnvD d wv bf w.heap.size (w.heap.size+1) (((w.alloc (.cells #[.string d.name, .int .i64 d.kind, .int .i64 d.lo, .int .i64 d.hi,wv] 77)).alloc (.cells #[.string bf] 9)).alloc o):=by
 refine EnvD.below ⟨(DefAt.box w d wv _).below (below_alloc _ _),hs.below (below_two _ _ _),?_⟩ (below_alloc _ _)
 have:=cell_of_row _ _ 0 _ _ (0,0) (heap_alloc_new (w.alloc (.cells #[.string d.name, .int .i64 d.kind, .int .i64 d.lo, .int .i64 d.hi,wv] 77)) (.cells #[.string bf] 9))
 simpa using this
set_option maxRecDepth 100000 in
set_option maxHeartbeats 1000000 in
theorem attrDef (d:PDef) (wv:Value) (bf:ByteArray) (w:World) (hs:Strs w wv d.words) (hsm:SmallD d) :
  Calls Tryz.prog 132 #[defV d wv, .string bf] w (RetI w (defE d bf)):=by
 have HE:=Lib.hid (EnvD.boxes d wv bf w hs)
 have HS:=Lib.hid hsm
 have HB:=fun o=>below_three w (.cells #[.string d.name, .int .i64 d.kind, .int .i64 d.lo, .int .i64 d.hi,wv] 77) (.cells #[.string bf] 9) o
 have HB:=Lib.hid HB
 clear hs hsm
 unfold defV
 by_cases e1:firstE (defA d bf)=0
 ·have E1:(firstE (defA d bf) != 0)=false:=by simpa using e1
  by_cases hk:d.kind=1
  ·have F:=defE_int d bf e1 hk
   have K:(d.kind == 1)=true:=by simpa using hk
   rw [F]
   clear F e1 hk
   go_enter Tryz.func132,Tryz.ntmps132
   go_wp2_with fail
   refine (runA (HE.out _) HS.out _ (Rules.mk (rulesA d bf _ _) (Nat.le_of_ble_eq_true rfl) (by simp) rfl rfl)).mono ?_
   rintro e w1 ⟨rfl,hb⟩
   have hE:=Lib.hid ((HE.out _).below hb)
   have hB:=Lib.hid (blift (HB.out _) hb)
   clear HE HB hb
   generalize firstE (defA d bf)=x1 at *
   have c1:=hE.out.1.2.1
   go_wp2_with fail
   refine (runBI (hE.out.below (below_alloc _ _)) HS.out _ (Rules.mk (rulesBI d _) (Nat.le_of_ble_eq_true rfl) (by simp) rfl rfl)).mono ?_
   rintro e w2 ⟨rfl,hb⟩
   go_wp2
   go_ret
   exact RetI.mk rfl (blift (blift hB.out (below_alloc _ _)) hb)
  ·have F:=defE_word d bf e1 hk
   have K:(d.kind == 1)=false:=by simpa using hk
   rw [F]
   clear F e1 hk
   go_enter Tryz.func132,Tryz.ntmps132
   go_wp2_with fail
   refine (runA (HE.out _) HS.out _ (Rules.mk (rulesA d bf _ _) (Nat.le_of_ble_eq_true rfl) (by simp) rfl rfl)).mono ?_
   rintro e w1 ⟨rfl,hb⟩
   have hE:=Lib.hid ((HE.out _).below hb)
   have hB:=Lib.hid (blift (HB.out _) hb)
   clear HE HB hb
   generalize firstE (defA d bf)=x1 at *
   have c1:=hE.out.1.2.1
   go_wp2_with fail
   refine (runBW (hE.out.below (below_alloc _ _)) HS.out _ (Rules.mk (rulesBW d _) (Nat.le_of_ble_eq_true rfl) (by simp) rfl rfl)).mono ?_
   rintro e w2 ⟨rfl,hb⟩
   go_wp2
   go_ret
   exact RetI.mk rfl (blift (blift hB.out (below_alloc _ _)) hb)
 ·have F:=defE_bad d bf e1
  have E1:(firstE (defA d bf) != 0)=true:=by simpa using e1
  rw [F]
  clear F e1
  go_enter Tryz.func132,Tryz.ntmps132
  go_wp2_with fail
  refine (runA (HE.out _) HS.out _ (Rules.mk (rulesA d bf _ _) (Nat.le_of_ble_eq_true rfl) (by simp) rfl rfl)).mono ?_
  rintro e w1 ⟨rfl,hb⟩
  have hB:=Lib.hid (blift (HB.out _) hb)
  clear HE HB hb
  generalize firstE (defA d bf)=x1 at *
  go_wp2
  go_ret
  exact RetI.mk rfl hB.out
def SmallS (s:PSchema):Prop:=s.defs.length≤1000∧∀d∈s.defs,SmallD d
def argBad (s:PSchema):Bool:=decide (s.dims < 1) || (decide (32 < s.dims) || (decide (s.metric < 1) || decide (3 < s.metric)))
def chkGo (x:Int) (b:ByteArray) (l:List PDef):Int:=if x≠0 then x else defsE b l
theorem chkGo_drop (l:List PDef) (k:Nat) (b:ByteArray) (d:PDef) (h:l[k]? = some d):chkGo 0 b (l.drop k)=chkGo (defE d b) d.name (l.drop (k+1)):=by
 obtain ⟨hk,rfl⟩:=List.getElem?_eq_some_iff.1 h
 rw [List.drop_eq_getElem_cons (by omega)]
 simp [chkGo,defsE]
theorem chkGo_end (l:List PDef) (k:Nat) (x:Int) (b:ByteArray) (h:l.length≤k):chkGo x b (l.drop k)=x:=by
 rw [List.drop_eq_nil_of_le h]
 simp [chkGo,defsE]
 intro h;exact h.symm
theorem chkGo_bad (x:Int) (b:ByteArray) (l:List PDef) (h:x≠0):chkGo x b l=x:=by simp [chkGo,h]
theorem checkE_chk (s:PSchema):checkE s=chkGo (firstE [(argBad s,1),(decide (16 < s.defs.length),2)]) ByteArray.empty s.defs:=by
 unfold checkE chkGo
 simp only [firstE,argBad,Bool.or_eq_true,decide_eq_true_eq]
 by_cases h:s.dims < 1∨32 < s.dims∨s.metric < 1∨3 < s.metric
 ·simp only [if_pos h];simp
 ·by_cases h2:16 < s.defs.length
  ·simp only [if_neg h,if_pos h2];simp
  ·simp only [if_neg h,if_neg h2];simp
def SchAt (w:World) (g:Nat) (s:PSchema) (dv:Value):Prop:=w.cell? ⟨g,0,none⟩=some (.int .i64 s.dims)∧w.cell? ⟨g,1,none⟩=some (.int .i64 s.metric)∧w.cell? ⟨g,2,none⟩=some dv∧Defs w dv s.defs
theorem SchAt.below {w w' : World} {g:Nat} {s:PSchema} {dv:Value} (h:SchAt w g s dv) (hb:Below w.heap.size w w'):SchAt w' g s dv:=
 ⟨below_cell hb h.1,below_cell hb h.2.1,below_cell hb h.2.2.1,h.2.2.2.below hb⟩
theorem SchAt.box (w:World) (s:PSchema) (dv:Value) (T:TypeId) (h:Defs w dv s.defs):SchAt (w.alloc (.cells #[.int .i64 s.dims, .int .i64 s.metric,dv] T)) w.heap.size s dv:=by
 refine ⟨?_,?_,?_,h.below (below_alloc _ _)⟩<;>simp
theorem check1 (g:Nat) (s:PSchema) (dv:Value) (w:World) (h:SchAt w g s dv):Calls Tryz.prog 130 #[.pointer (some ⟨g,0,none⟩)] w (RetB w (argBad s)):=by
 obtain ⟨c0,c1,c2,-⟩:=h
 cases e:decide (s.dims < 1)<;>cases e2:decide (32 < s.dims)<;>cases e3:decide (s.metric < 1)
 all_goals
  go_enter Tryz.func130,Tryz.ntmps130
  go_wp2
  go_ret
  exact RetB.mk (by simp [argBad,e,e2,e3]) (Below.refl _ _)
theorem check2 (g:Nat) (s:PSchema) (dv:Value) (w:World) (h:SchAt w g s dv) (hl:s.defs.length≤1000):Calls Tryz.prog 131 #[.pointer (some ⟨g,0,none⟩)] w (RetB w (decide (16 < s.defs.length))):=by
 obtain ⟨c0,c1,c2,hd⟩:=h
 obtain ⟨a,cap,b,off,rfl,-⟩:=hd.open
 have e:decide ((16:Int) < (s.defs.length:Int))=decide (16 < s.defs.length):=by rw [Bool.eq_iff_iff];simp only [decide_eq_true_eq];omega
 have E:=Lib.hid e
 clear e
 go_enter Tryz.func131,Tryz.ntmps131
 go_wp2
 go_ret
 exact RetB.mk E.out (Below.refl _ _)
theorem cC1:CallOk 130:=fun _ _=>by kernel_rfl
theorem cC2:CallOk 131:=fun _ _=>by kernel_rfl
def rulesC (s:PSchema) (g:Nat):List Rule := [⟨130,#[.pointer (some ⟨g,0,none⟩)],argBad s,1⟩,⟨131,#[.pointer (some ⟨g,0,none⟩)],decide (16 < s.defs.length),2⟩]
theorem runC {s:PSchema} {dv:Value} {g:Nat} {w:World} (e:SchAt w g s dv) (hl:s.defs.length≤1000) (v:Value) (hv:Rules w v (rulesC s g)) :
  Calls Tryz.prog 87 #[v] w (RetI w (firstE [(argBad s,1),(decide (16 < s.defs.length),2)])):=by
 refine attrFirst v (rulesC s g) w hv (Nat.le_of_ble_eq_true rfl) ?_ ?_
 ·intro r hr
  simp only [rulesC,List.mem_cons,List.not_mem_nil,or_false] at hr
  rcases hr with rfl|rfl
  ·exact cC1
  ·exact cC2
 ·intro r hr w' hb
  have e':=e.below hb
  simp only [rulesC,List.mem_cons,List.not_mem_nil,or_false] at hr
  rcases hr with rfl|rfl
  ·exact check1 g s dv w' e'
  ·exact check2 g s dv w' e' hl
set_option maxRecDepth 100000 in
set_option maxHeartbeats 1000000 in
theorem attrCheck (v:Value) (s:PSchema) (w:World) (hv:SchemaV w v s) (hsm:SmallS s):Calls Tryz.prog 54 #[v] w (RetI w (checkE s)):=by
 obtain ⟨dv,rfl,hd⟩:=hv
 obtain ⟨s1,s2⟩:=hsm
 have S2:Hid (∀d∈s.defs,SmallD d):=s2
 have HB:=Lib.hid (SchAt.box w s dv 24 hd)
 have hw0:Below w.heap.size w (w.alloc (.cells #[.int .i64 s.dims, .int .i64 s.metric,dv] 24)):=below_alloc _ _
 have C:=Lib.hid (checkE_chk s)
 clear s2 hd
 go_enter Tryz.func54,Tryz.ntmps54
 go_wp2_with fail
 generalize hw:w.alloc (.cells #[.int .i64 s.dims, .int .i64 s.metric,dv] 24)=w0 at *
 have hsz:w.heap.size+1=w0.heap.size:=by rw [←hw];simp
 clear hw
 refine (runC (HB.out.below (below_alloc _ _)) (by omega) _ (Rules.mk (rulesC s _) (Nat.le_of_ble_eq_true rfl) (by rw [←hsz]) rfl rfl)).mono ?_
 rintro e w1 ⟨rfl,hb⟩
 have hb1:=blift (below_alloc _ _) hb
 clear hb hsz
 generalize firstE [(argBad s,1),(decide (16 < s.defs.length),2)]=x1 at *
 have ha:=HB.out.2.2.2.open
 go_wp2
 go_loopw [3,4,5] (fun e b i wr=>∃(k:Nat) (x:Int) (bf:ByteArray),k≤s.defs.length∧i = .int .i64 k∧e = .int .i64 x∧b = .string bf∧Below w0.heap.size w0 wr∧Hid (checkE s=chkGo x bf (s.defs.drop k))) (fun _ _ i _=>s.defs.length - (intOf i).toNat)
 case atStart=>exact ⟨0,x1,_,by omega,rfl,rfl,rfl,hb1,C.out⟩
 case round=>
  obtain ⟨k,x,bf,hk,rfl,rfl,rfl,hb,hh⟩:=hrel
  obtain ⟨a,cap,b,off,rfl,-,-,ha,hc⟩:=ha
  have HS:=Lib.hid (HB.out.below hb)
  have c2:=HS.out.2.2.1
  by_cases hlt:k < s.defs.length
  ·by_cases hx:x=0
   ·subst hx
    obtain ⟨y,hy⟩:=ints_get s.defs k (by omega)
    obtain ⟨wv,hd,hs⟩:=hc.out k y hy
    obtain ⟨d0,d1,d2,d3,d4⟩:=hd.below hb
    have H:=Lib.hid (chkGo_drop s.defs k bf y hy)
    have hs':=Lib.hid (hs.below hb)
    have hsm:=Lib.hid (S2.out y (List.mem_of_getElem? hy))
    obtain rfl:=ha (by omega)
    clear hs hd hc hy ha
    go_wp2_with fail
    refine (attrDef y wv bf _ hs'.out hsm.out).mono ?_
    rintro e w2 ⟨rfl,hb2⟩
    have d0':=below_cell hb2 d0
    have c2':=below_cell hb2 c2
    have hb3:=blift hb hb2
    clear hb hb2 d0 d1 d2 d3 d4 c2 hs'
    go_wp2
    go_roundw
    case rel=>exact ⟨k+1,_,_,by omega,by go_num,rfl,rfl,hb3,by rw [Hid,hh.out,H.out]⟩
    case measure=>simp [intOf];omega
   ·have hx' : (x == 0)=false:=by simpa using hx
    have F:=Lib.hid (chkGo_bad x bf (s.defs.drop k) hx)
    clear hx hc ha
    go_wp2
    go_ret
    exact RetI.mk (by rw [hh.out,F.out]) (blift hw0 hb)
  ·have F:=Lib.hid (chkGo_end s.defs k x bf (by omega))
   clear hc ha
   go_wp2
   go_ret
   exact RetI.mk (by rw [hh.out,F.out]) (blift hw0 hb)
set_option maxRecDepth 100000 in
theorem refBytes (s:ByteArray) (w:World) (hs:s.size≤1000000000):Calls Tryz.prog 212 #[.string s] w (MadeBytes w (strB s)):=by
 have hl0:=intB_len s.size (by omega) (by omega)
 go_enter Tryz.func212,Tryz.ntmps212
 go_wp2_with (first|(at_builtin;refine wp_appendStr (.tmp 5) (.tmp 6) 92 9 5 elemByte rfl rfl Tryz.underlying92 Tryz.underlying9 w.heap.size _ _ s rfl ho1 rfl (by rw [List.length_map];omega) hb1.size ?_;intro v' w' hown' hb')|(go_at_call 211;refine (refInt _ _ (by omega) (by omega)).mono ?_;rintro e w1 ⟨v1,rfl,ho1,hb1⟩))
 go_ret
 exact ⟨_,rfl,by rw [strB,List.map_append,←strCells_eq];exact hown',hb1.trans hb'⟩
theorem StrsOpen {w:World} {v:Value} {l:List ByteArray} (h:Rd w v (l.map Value.string)):∃a cap b off,v = .slice a l.length cap∧l.length≤cap∧cap≤maxLen ∧
  (0 < l.length→a=some ⟨b,off,none⟩)∧Hid (∀j x,l[j]? = some x→w.cell? ⟨b,off+j,none⟩=some (.string x)):=by
 obtain ⟨a,cap,b,off,h1,h2,h3,h4,h5⟩:=h
 simp only [List.length_map] at h1 h2 h4
 exact ⟨a,cap,b,off,h1,h2,h3,h4,fun j x hx=>h5 j _ (by simp [hx])⟩
set_option maxRecDepth 100000 in
set_option maxHeartbeats 1000000 in
theorem refStrings (v:Value) (zs:List ByteArray) (w:World) (hv:Rd w v (zs.map Value.string)) (hf:SmallStrs zs) (hl:zs.length≤1000000):Calls Tryz.prog 129 #[v] w (MadeBytes w (strsB zs)):=by
 obtain ⟨a,cap,b,off,rfl,hcap,hm,ha,hc⟩:=StrsOpen hv
 have HF:=Hid.mk hf
 have hl0:=intB_len zs.length (by omega) (by omega)
 clear hv
 go_enter Tryz.func129,Tryz.ntmps129
 go_wp2_with (go_at_call 211;refine (refInt _ _ (by omega) (by omega)).mono ?_;rintro e w1 ⟨v1,rfl,ho1,hb1⟩)
 go_loopw [3,4] (fun o i wr=>∃k:Nat,k≤zs.length∧i = .int .i64 k∧Own w.heap.size 5 wr o ((intB zs.length ++ ((zs.take k).map strB).flatten).map (Value.int .u8))∧Below w.heap.size w wr) (fun _ i _=>zs.length - (intOf i).toNat)
 case atStart=>exact ⟨0,by omega,rfl,by simpa using ho1,hb1⟩
 case round=>
  obtain ⟨k,hk,rfl,hown,hb⟩:=hrel
  have HB:=Hid.mk hb
  clear hb
  have hb2:=HB.out.size
  by_cases hlt:k < zs.length
  ·obtain ⟨y,hy⟩:=ints_get zs k hlt
   have c1:=below_cell HB.out (hc.out k y hy)
   have y1:=HF.out y (List.mem_of_getElem? hy)
   have hl1:=strB_len y y1
   have hl2:=strs_len (zs.take k) (fun z hz=>HF.out z (List.mem_of_mem_take hz))
   have hl3:(zs.take k).length≤zs.length:=by rw [List.length_take];omega
   obtain rfl:=ha (by omega)
   have T:=Hid.mk (strs_take zs k y hy)
   clear ha hy
   go_wp2_with (first|(at_builtin;refine wp_append (.tmp 14) (.tmp 19) 92 5 1 _ elemByte rfl rfl Tryz.underlying92 w.heap.size _ _ _ _ rfl (hown.kept hb3) rfl ho3.rd (by simp only [List.length_map];omega) (oneCells _ _) (by simp only [List.length_map,List.length_append,maxLen];omega) (by simp only [List.length_map,List.length_append];omega) (by have:=hb3.size;omega) ?_;intro v' w' hown' hb')|(go_at_call 212;refine (refBytes _ _ (by omega)).mono ?_;rintro e w3 ⟨v3,rfl,ho3,hb3⟩))
   go_roundw
   case rel=>exact ⟨k+1,by omega,by go_num,by rw [T.out,←List.append_assoc,List.map_append];exact hown',(HB.out.trans (hb3.mono hb2)).trans hb'⟩
   case measure=>simp [intOf];omega
  ·have e:zs.take k=zs:=List.take_of_length_le (by omega)
   rw [e] at hown
   go_wp2
   go_ret
   exact ⟨_,rfl,hown,HB.out⟩
end
end Go.Proofs.YtoamkpgaaanafaaGreat
