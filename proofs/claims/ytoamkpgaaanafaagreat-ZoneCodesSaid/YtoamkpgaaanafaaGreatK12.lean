/- Out of: AttrK, AttrL, AttrN, Pc. -/
import Derived.StillTailTactics
import Derived.Deep.Cut
import Derived.Test.YtoamkpgaaanafaaGreatK1
import Derived.Test.YtoamkpgaaanafaaGreatK2
import Derived.Test.YtoamkpgaaanafaaGreatK4
import Derived.Test.YtoamkpgaaanafaaGreatK5
import Derived.Test.YtoamkpgaaanafaaGreatK6
import Derived.Test.YtoamkpgaaanafaaGreatK8
import Derived.Test.YtoamkpgaaanafaaGreatK9
import Derived.Test.YtoamkpgaaanafaaGreatK10
namespace Go.Proofs.YtoamkpgaaanafaaGreat
set_option linter.unusedSimpArgs false
set_option linter.unusedVariables false
set_option linter.unnecessarySimpa false
section
open Go.RowKit
theorem AttrAt.box (w:World) (a:PAttr) (T:TypeId):AttrAt (w.alloc (.cells #[.string a.name, .int .i64 a.kind, .int .i64 a.n, .string a.s] T)) w.heap.size 0 a:=by
 refine ⟨?_,?_,?_,?_⟩<;>simp
theorem eqB_empty (s:ByteArray):eqB s ByteArray.empty=s.toList.isEmpty:=by
 have e:ByteArray.empty.toList = []:=by unfold ByteArray.toList ByteArray.toList.loop;rfl
 unfold eqB
 rw [e]
 cases h:s.toList<;>rfl
def GotRet (w:World) (r:PAttr×Bool) (e:Ending) (w' : World):Prop:=
 e = .returned (.agg #[.string r.1.name, .int .i64 r.1.kind, .int .i64 r.1.n, .string r.1.s, .bool r.2])∧Below w.heap.size w w'
theorem GotRet.mk {w w' : World} {r:PAttr×Bool} {a:PAttr} {b:Bool} (h:r=(a,b)) (hb:Below w.heap.size w w'):GotRet w r (.returned (.agg #[.string a.name, .int .i64 a.kind, .int .i64 a.n, .string a.s, .bool b])) w':=by
 subst h;exact ⟨rfl,hb⟩
theorem get1 (g:Nat) (x:PAttr) (nm:ByteArray) (w:World) (c5:w.cell? ⟨g,0,none⟩=some (.string nm)) :
  Calls Tryz.prog 98 #[attrV x, .pointer (some ⟨g,0,none⟩)] w (RetB w (eqB x.name nm)):=by
 have hlt:=World.block_lt_of_cell? _ _ c5
 unfold attrV
 go_enter Tryz.func98,Tryz.ntmps98
 go_wp2
 go_ret
 exact RetB.mk rfl (below_alloc _ _)
theorem cG1:CallOk 98:=fun _ _=>by kernel_rfl
theorem getA_idx (l:List PAttr) (nm:ByteArray):(idxB (l.map fun x=>eqB x.name nm) = -1∧getA l nm=(zeroA,false)) ∨
  ∃(k:Nat) (a:PAttr),idxB (l.map fun x=>eqB x.name nm)=k∧l[k]? = some a∧getA l nm=(a,true):=by
 have key:∀(l:List PAttr) (j:Nat),(idxGo (l.map fun x=>eqB x.name nm) j = -1∧getA l nm=(zeroA,false)) ∨
   ∃(k:Nat) (a:PAttr),idxGo (l.map fun x=>eqB x.name nm) j=((j+k:Nat):Int)∧l[k]? = some a∧getA l nm=(a,true):=by
  intro l
  induction l with
  |nil=>intro j;exact .inl ⟨rfl,rfl⟩
  |cons x r ih=>
   intro j
   simp only [List.map_cons,idxGo,getA]
   cases e:eqB x.name nm
   ·rcases ih (j+1) with ⟨h1,h2⟩|⟨k,a,h1,h2,h3⟩
    ·left;simp only [Bool.false_eq_true,if_false];exact ⟨h1,h2⟩
    ·right;refine ⟨k+1,a,?_,h2,?_⟩
     ·simp only [Bool.false_eq_true,if_false]
      have:(((j+1:Nat):Int))=(j:Int)+1:=by omega
      rw [this] at h1;rw [h1];omega
     ·simpa using h3
   ·right;exact ⟨0,x,by simp,by simp,by simp⟩
 rcases key l 0 with h|⟨k,a,h1,h2,h3⟩
 ·exact .inl h
 ·exact .inr ⟨k,a,by simpa [idxB] using h1,h2,h3⟩
def GetRet (w:World) (r:PAttr×Bool) (e:Ending) (w' : World):Prop:=
 e = .returned (.tuple #[attrV r.1, .bool r.2])∧Below w.heap.size w w'
theorem GetRet.mk {w w' : World} {r:PAttr×Bool} {a:PAttr} {b:Bool} (h:r=(a,b)) (hb:Below w.heap.size w w'):GetRet w r (.returned (.tuple #[.agg #[.string a.name, .int .i64 a.kind, .int .i64 a.n, .string a.s], .bool b])) w':=by
 subst h;exact ⟨rfl,hb⟩
set_option maxRecDepth 100000 in
set_option maxHeartbeats 1000000 in
theorem attrGet (v:Value) (l:List PAttr) (nm:ByteArray) (w:World) (hv:Attrs w v l) (hl:l.length≤1000000) :
  Calls Tryz.prog 37 #[v, .string nm] w (GetRet w (getA l nm)):=by
 have HV:=Lib.hid hv
 obtain ⟨a,cap,b,off,rfl,hcap,hm,ha,hc⟩:=hv.open
 clear hv
 go_enter Tryz.func37,Tryz.ntmps37
 go_wp2_with fail
 refine (indexAttr _ l _ _ (fun x=>eqB x.name nm) _ (HV.out.below (below_two _ _ _)) (by omega) cG1 (fun x hx w' hb=>get1 _ x nm w' (below_cell ((blift (below_alloc _ _) hb)) (by simp)))).mono ?_
 rintro e w1 ⟨rfl,hb⟩
 have hb1:=blift (below_two _ _ _) hb
 have r0:∀j,w1.frozen? ⟨w.heap.size+1,j,none⟩=false:=fun j=>by rw [hb.frozen (by simp)];simp
 have r1:w1.cell? ⟨w.heap.size+1,0,none⟩=some (.string ⟨#[]⟩):=below_cell hb (by simp)
 have r2:w1.cell? ⟨w.heap.size+1,1,none⟩=some (.int .i64 0):=below_cell hb (by simp)
 have r3:w1.cell? ⟨w.heap.size+1,2,none⟩=some (.int .i64 0):=below_cell hb (by simp)
 have r4:w1.cell? ⟨w.heap.size+1,3,none⟩=some (.string ⟨#[]⟩):=below_cell hb (by simp)
 clear hb
 rcases getA_idx l nm with ⟨h1,h2⟩|⟨k,x,h1,h2,h3⟩
 ·have H:=Lib.hid h2
  rw [h1]
  clear h1 h2 hc ha
  go_wp2
  refine bodyPost_ret (v:=.tuple #[.agg #[.string ⟨#[]⟩, .int .i64 0, .int .i64 0, .string ⟨#[]⟩], .bool false]) (by simp [results,Tryz.results37,go_sem,r0,r1,r2,r3,r4]) rfl (GetRet.mk (a:=zeroA) H.out ((((hb1.setCell ?_ _).setCell ?_ _).setCell ?_ _).setCell ?_ _))<;>simp
 ·have H:=Lib.hid h3
  have hk:k < l.length:=(List.getElem?_eq_some_iff.1 h2).1
  obtain ⟨c0,c1,c2,c3⟩:=(hc.out k x h2).below hb1
  obtain rfl:=ha (by omega)
  have hbl:b < w.heap.size:=(hc.out k x h2).lt
  rw [h1]
  clear h1 h2 h3 hc ha
  go_wp2
  refine bodyPost_ret (v:=.tuple #[.agg #[.string x.name, .int .i64 x.kind, .int .i64 x.n, .string x.s], .bool true]) (by simp [results,Tryz.results37,go_sem,r0,r1,r2,r3,r4]) rfl (GetRet.mk H.out ((((hb1.setCell ?_ _).setCell ?_ _).setCell ?_ _).setCell ?_ _))<;>simp
theorem fits1 (g:Nat) (d:PDef) (wv:Value) (a:PAttr) (w:World) (c5:w.cell? ⟨g,0,none⟩=some (.string a.name)) :
  Calls Tryz.prog 176 #[defV d wv, .pointer (some ⟨g,0,none⟩)] w (RetB w (eqB d.name a.name)):=by
 have hlt:=World.block_lt_of_cell? _ _ c5
 unfold defV
 go_enter Tryz.func176,Tryz.ntmps176
 go_wp2
 go_ret
 exact RetB.mk rfl (below_alloc _ _)
theorem fits2 (g h:Nat) (a:PAttr) (bf:ByteArray) (w:World) (ha:AttrAt w g 0 a) (c5:w.cell? ⟨h,0,none⟩=some (.string bf)) :
  Calls Tryz.prog 177 #[.pointer (some ⟨g,0,none⟩), .pointer (some ⟨h,0,none⟩)] w (RetB w (leqB a.name bf)):=by
 obtain ⟨c0,c1,c2,c3⟩:=ha
 go_enter Tryz.func177,Tryz.ntmps177
 go_wp2
 go_ret
 exact RetB.mk rfl (Below.refl _ _)
theorem fits3 (g h:Nat) (a:PAttr) (d:PDef) (wv:Value) (w:World) (ha:AttrAt w g 0 a) (hd:DefAt w h 0 d wv) :
  Calls Tryz.prog 178 #[.pointer (some ⟨g,0,none⟩), .pointer (some ⟨h,0,none⟩)] w (RetB w (a.kind != d.kind)):=by
 obtain ⟨c0,c1,c2,c3⟩:=ha
 obtain ⟨d0,d1,d2,d3,d4⟩:=hd
 go_enter Tryz.func178,Tryz.ntmps178
 go_wp2
 go_ret
 exact RetB.mk rfl (Below.refl _ _)
def formA (a:PAttr):Bool:=if a.kind == 1 then !a.s.toList.isEmpty else a.n != 0
def rangeA (d:PDef) (a:PAttr):Bool:=(a.kind == 1) && (decide (a.n < d.lo) || decide (d.hi < a.n))
def wordA (d:PDef) (a:PAttr):Bool := !(a.kind == 1) && !hasB d.words a.s
theorem fits4 (g h:Nat) (a:PAttr) (w:World) (ha:AttrAt w g 0 a) (c5:w.cell? ⟨h,0,none⟩=some (.bool (a.kind == 1))) :
  Calls Tryz.prog 179 #[.pointer (some ⟨h,0,none⟩), .pointer (some ⟨g,0,none⟩)] w (RetB w (formA a)):=by
 obtain ⟨c0,c1,c2,c3⟩:=ha
 unfold formA
 cases e:(a.kind == 1)
 ·rw [e] at c5
  go_enter Tryz.func179,Tryz.ntmps179
  go_wp2
  go_ret
  exact RetB.mk (by simp) (Below.refl _ _)
 ·rw [e] at c5
  cases e2:a.s.toList.isEmpty
  all_goals
   go_enter Tryz.func179,Tryz.ntmps179
   go_wp2
   go_ret
   exact RetB.mk (by simp_all) (Below.refl _ _)
theorem fits5 (g h k:Nat) (a:PAttr) (d:PDef) (wv:Value) (w:World) (ha:AttrAt w g 0 a) (hd:DefAt w k 0 d wv) (c5:w.cell? ⟨h,0,none⟩=some (.bool (a.kind == 1))) :
  Calls Tryz.prog 180 #[.pointer (some ⟨h,0,none⟩), .pointer (some ⟨g,0,none⟩), .pointer (some ⟨k,0,none⟩)] w (RetB w (rangeA d a)):=by
 obtain ⟨c0,c1,c2,c3⟩:=ha
 obtain ⟨d0,d1,d2,d3,d4⟩:=hd
 unfold rangeA
 cases e:(a.kind == 1)
 ·rw [e] at c5
  go_enter Tryz.func180,Tryz.ntmps180
  go_wp2
  go_ret
  exact RetB.mk (by simp) (Below.refl _ _)
 ·rw [e] at c5
  cases e2:decide (a.n < d.lo)
  all_goals
   go_enter Tryz.func180,Tryz.ntmps180
   go_wp2
   go_ret
   exact RetB.mk (by simp) (Below.refl _ _)
theorem fits6 (g h k:Nat) (a:PAttr) (d:PDef) (wv:Value) (w:World) (ha:AttrAt w g 0 a) (hd:DefAt w k 0 d wv) (hs:Strs w wv d.words) (hl:d.words.length≤1000) (c5:w.cell? ⟨h,0,none⟩=some (.bool (a.kind == 1))) :
  Calls Tryz.prog 181 #[.pointer (some ⟨h,0,none⟩), .pointer (some ⟨k,0,none⟩), .pointer (some ⟨g,0,none⟩)] w (RetB w (wordA d a)):=by
 have HS:=Lib.hid hs
 obtain ⟨c0,c1,c2,c3⟩:=ha
 obtain ⟨d0,d1,d2,d3,d4⟩:=hd
 clear hs
 unfold wordA
 cases e:(a.kind == 1)
 ·rw [e] at c5
  go_enter Tryz.func181,Tryz.ntmps181
  go_wp2_with fail
  refine (slicesContainsS _ d.words a.s _ HS.out (by omega)).mono ?_
  rintro e w' ⟨rfl,rfl⟩
  go_wp2
  go_ret
  exact RetB.mk (by simp) (Below.refl _ _)
 ·rw [e] at c5
  go_enter Tryz.func181,Tryz.ntmps181
  go_wp2
  go_ret
  exact RetB.mk (by simp) (Below.refl _ _)
theorem cF1:CallOk 176:=fun _ _=>by kernel_rfl
theorem cF2:CallOk 177:=fun _ _=>by kernel_rfl
theorem cF3:CallOk 178:=fun _ _=>by kernel_rfl
theorem cF4:CallOk 179:=fun _ _=>by kernel_rfl
theorem cF5:CallOk 180:=fun _ _=>by kernel_rfl
theorem cF6:CallOk 181:=fun _ _=>by kernel_rfl
structure EnvF (a:PAttr) (d:PDef) (wv:Value) (bf:ByteArray) (g h k q:Nat) (w:World):Prop where
 at_:AttrAt w g 0 a
 bf:w.cell? ⟨h,0,none⟩=some (.string bf)
 df:DefAt w k 0 d wv
 ws:Strs w wv d.words
 nm:w.cell? ⟨q,0,none⟩=some (.bool (a.kind == 1))
theorem EnvF.below {a:PAttr} {d:PDef} {wv:Value} {bf:ByteArray} {g h k q:Nat} {w w' : World} (e:EnvF a d wv bf g h k q w) (hb:Below w.heap.size w w'):EnvF a d wv bf g h k q w':=
 ⟨e.at_.below hb,below_cell hb e.bf,e.df.below hb,e.ws.below hb,below_cell hb e.nm⟩
def rulesF (a:PAttr) (d:PDef) (bf:ByteArray) (g h k q:Nat):List Rule := [⟨177,#[.pointer (some ⟨g,0,none⟩), .pointer (some ⟨h,0,none⟩)],leqB a.name bf,6⟩,
 ⟨178,#[.pointer (some ⟨g,0,none⟩), .pointer (some ⟨k,0,none⟩)],a.kind != d.kind,130⟩,
 ⟨179,#[.pointer (some ⟨q,0,none⟩), .pointer (some ⟨g,0,none⟩)],formA a,3⟩,
 ⟨180,#[.pointer (some ⟨q,0,none⟩), .pointer (some ⟨g,0,none⟩), .pointer (some ⟨k,0,none⟩)],rangeA d a,131⟩,
 ⟨181,#[.pointer (some ⟨q,0,none⟩), .pointer (some ⟨k,0,none⟩), .pointer (some ⟨g,0,none⟩)],wordA d a,131⟩]
def fitR (d:PDef) (bf:ByteArray) (a:PAttr):List (Bool×Int) := [(leqB a.name bf,6),(a.kind != d.kind,130),(formA a,3),(rangeA d a,131),(wordA d a,131)]
theorem runF {a:PAttr} {d:PDef} {wv:Value} {bf:ByteArray} {g h k q:Nat} {w:World} (e:EnvF a d wv bf g h k q w) (hl:d.words.length≤1000) (v:Value) (hv:Rules w v (rulesF a d bf g h k q)) :
  Calls Tryz.prog 87 #[v] w (RetI w (firstE (fitR d bf a))):=by
 refine attrFirst v (rulesF a d bf g h k q) w hv (Nat.le_of_ble_eq_true rfl) ?_ ?_
 ·intro r hr
  simp only [rulesF,List.mem_cons,List.not_mem_nil,or_false] at hr
  rcases hr with rfl|rfl|rfl|rfl|rfl
  ·exact cF2
  ·exact cF3
  ·exact cF4
  ·exact cF5
  ·exact cF6
 ·intro r hr w' hb
  have e':=e.below hb
  simp only [rulesF,List.mem_cons,List.not_mem_nil,or_false] at hr
  rcases hr with rfl|rfl|rfl|rfl|rfl
  ·exact fits2 g h a bf w' e'.at_ e'.bf
  ·exact fits3 g k a d wv w' e'.at_ e'.df
  ·exact fits4 g q a w' e'.at_ e'.nm
  ·exact fits5 g q k a d wv w' e'.at_ e'.df e'.nm
  ·exact fits6 g q k a d wv w' e'.at_ e'.df e'.ws hl e'.nm
theorem fitR_eq (d:PDef) (bf:ByteArray) (a:PAttr):firstE (fitR d bf a)=if leqB a.name bf then 6 else valueE d a:=by
 have he:=eqB_empty a.s
 unfold fitR firstE
 cases leqB a.name bf
 ·simp only [Bool.false_eq_true,if_false]
  unfold firstE valueE
  by_cases h1:a.kind=d.kind
  ·by_cases h2:a.kind=1
   ·have e2:(a.kind == 1)=true:=by simp [h2]
    rw [if_neg (show ¬(a.kind != d.kind)=true by simp [h1]),if_neg (show ¬a.kind≠d.kind from fun h=>h h1),if_pos h2]
    simp only [firstE,formA,rangeA,wordA,e2,if_true,Bool.true_and,Bool.not_true,Bool.false_and,Bool.false_eq_true,if_false,he]
    cases a.s.toList.isEmpty
    ·simp
    ·simp
   ·have e2:(a.kind == 1)=false:=by simp [h2]
    rw [if_neg (show ¬(a.kind != d.kind)=true by simp [h1]),if_neg (show ¬a.kind≠d.kind from fun h=>h h1),if_neg h2]
    simp only [firstE,formA,rangeA,wordA,e2,Bool.false_eq_true,if_false,Bool.false_and,Bool.not_false,Bool.true_and]
    by_cases h3:a.n=0
    ·simp [h3];cases hasB d.words a.s<;>simp
    ·simp [h3]
  ·rw [if_pos (show (a.kind != d.kind)=true by simp [h1]),if_pos h1]
 ·rfl
theorem fitsGo_drop (ds:List PDef) (l:List PAttr) (k:Nat) (b:ByteArray) (a:PAttr) (h:l[k]? = some a):fitsGo ds b false (l.drop k)=if fitE ds b false a≠0 then fitE ds b false a else fitsGo ds a.name false (l.drop (k+1)):=by
 obtain ⟨hk,rfl⟩:=List.getElem?_eq_some_iff.1 h
 rw [List.drop_eq_getElem_cons (by omega),fitsGo]
theorem fitsGo_end (ds:List PDef) (l:List PAttr) (k:Nat) (b:ByteArray) (f:Bool) (h:l.length≤k):fitsGo ds b f (l.drop k)=0:=by
 rw [List.drop_eq_nil_of_le h,fitsGo]
theorem fitE_none (ds:List PDef) (b:ByteArray) (f:Bool) (a:PAttr) (h:findI ds a.name < 0):fitE ds b f a=5:=by rw [fitE,if_pos h]
theorem fitE_some (ds:List PDef) (b:ByteArray) (a:PAttr) (k:Nat) (d:PDef) (h:findI ds a.name=k) (hd:ds[k]? = some d):fitE ds b false a=firstE (fitR d b a):=by
 rw [fitE,if_neg (by omega),fitR_eq,h,Int.toNat_natCast,hd];rfl
theorem findI_cases (ds:List PDef) (nm:ByteArray):findI ds nm = -1∨∃(k:Nat) (d:PDef),findI ds nm=k∧ds[k]? = some d:=by
 by_cases h:findI ds nm < 0
 ·left;have:=idxB_ge (ds.map fun d=>eqB d.name nm);unfold findI at *; omega
 ·right
  have h1:=idxB_lt (ds.map fun d=>eqB d.name nm) (by unfold findI at h;omega)
  rw [List.length_map] at h1
  refine ⟨(findI ds nm).toNat,ds[(findI ds nm).toNat]'(by unfold findI at *; omega),by omega,by simp⟩
theorem EnvF.box1 {a:PAttr} {d:PDef} {wv:Value} {bf:ByteArray} {g h:Nat} {w:World} (ha:AttrAt w g 0 a) (hb:w.cell? ⟨h,0,none⟩=some (.string bf)) (hs:Strs w wv d.words) (o:Obj) :
  EnvF a d wv bf g h w.heap.size (w.heap.size+1) (((w.alloc (.cells #[.string d.name, .int .i64 d.kind, .int .i64 d.lo, .int .i64 d.hi,wv] 77)).alloc (.cells #[.bool (a.kind == 1)] 4)).alloc o):=by
 refine EnvF.below ⟨ha.below (below_two _ _ _),below_cell (below_two _ _ _) hb,(DefAt.box w d wv _).below (below_alloc _ _),hs.below (below_two _ _ _),?_⟩ (below_alloc _ _)
 simp
theorem EnvF.box2 {a:PAttr} {d:PDef} {wv:Value} {bf:ByteArray} {g h:Nat} {w:World} (ha:AttrAt w g 0 a) (hb:w.cell? ⟨h,0,none⟩=some (.string bf)) (hs:Strs w wv d.words) (o:Obj) :
  EnvF a d wv bf g h (w.heap.size+1) w.heap.size (((w.alloc (.cells #[.bool (a.kind == 1)] 4)).alloc (.cells #[.string d.name, .int .i64 d.kind, .int .i64 d.lo, .int .i64 d.hi,wv] 77)).alloc o):=by
 refine EnvF.below ⟨ha.below (below_two _ _ _),below_cell (below_two _ _ _) hb,?_,hs.below (below_two _ _ _),below_cell (below_alloc _ _) (by simp)⟩ (below_alloc _ _)
 have:=DefAt.box (w.alloc (.cells #[.bool (a.kind == 1)] 4)) d wv 77
 simpa using this
theorem below_drew1 {w w' : World} (h:Below w.heap.size w w'):Below w.heap.size w w'.drew:=h.drew
theorem EnvF.drew {a:PAttr} {d:PDef} {wv:Value} {bf:ByteArray} {g h k q:Nat} {w:World} (e:EnvF a d wv bf g h k q w):EnvF a d wv bf g h k q w.drew:=e.below ((Below.refl _ _).drew)
theorem Rules.drew {w:World} {v:Value} {rs:List Rule} (h:Rules w v rs):Rules w.drew v rs:=h
theorem runF1 {a:PAttr} {d:PDef} {wv:Value} {bf:ByteArray} {g h n:Nat} {T:TypeId} {cs:Array Value} {w:World} (ha:AttrAt w g 0 a) (hb:w.cell? ⟨h,0,none⟩=some (.string bf)) (hs:Strs w wv d.words) (hl:d.words.length≤1000)
  (hn:n=w.heap.size+1+1) (hcs:cs=((rulesF a d bf g h w.heap.size (w.heap.size+1)).map ruleC).flatten.toArray) :
  Calls Tryz.prog 87 #[.slice (some ⟨n,0,none⟩) 5 5] (((w.alloc (.cells #[.string d.name, .int .i64 d.kind, .int .i64 d.lo, .int .i64 d.hi,wv] 77)).alloc (.cells #[.bool (a.kind == 1)] 4)).alloc (.cells cs T)).drew (RetI w (firstE (fitR d bf a))):=by
 refine (runF ((EnvF.box1 ha hb hs _).drew) hl _ (Rules.drew (Rules.mk (rulesF a d bf _ _ _ _) (Nat.le_of_ble_eq_true rfl) (by simp [hn]) rfl hcs))).mono ?_
 rintro e w' ⟨rfl,hb'⟩
 exact ⟨rfl,blift (below_drew1 (below_three _ _ _ _)) hb'⟩
theorem runF2 {a:PAttr} {d:PDef} {wv:Value} {bf:ByteArray} {g h n:Nat} {T:TypeId} {cs:Array Value} {w:World} (ha:AttrAt w g 0 a) (hb:w.cell? ⟨h,0,none⟩=some (.string bf)) (hs:Strs w wv d.words) (hl:d.words.length≤1000)
  (hn:n=w.heap.size+1+1) (hcs:cs=((rulesF a d bf g h (w.heap.size+1) w.heap.size).map ruleC).flatten.toArray) :
  Calls Tryz.prog 87 #[.slice (some ⟨n,0,none⟩) 5 5] (((w.alloc (.cells #[.bool (a.kind == 1)] 4)).alloc (.cells #[.string d.name, .int .i64 d.kind, .int .i64 d.lo, .int .i64 d.hi,wv] 77)).alloc (.cells cs T)).drew (RetI w (firstE (fitR d bf a))):=by
 refine (runF ((EnvF.box2 ha hb hs _).drew) hl _ (Rules.drew (Rules.mk (rulesF a d bf _ _ _ _) (Nat.le_of_ble_eq_true rfl) (by simp [hn]) rfl hcs))).mono ?_
 rintro e w' ⟨rfl,hb'⟩
 exact ⟨rfl,blift (below_drew1 (below_three _ _ _ _)) hb'⟩
set_option maxRecDepth 100000 in
set_option maxHeartbeats 1000000 in
theorem attrFits (v u:Value) (s:PSchema) (l:List PAttr) (w:World) (hv:SchemaV w v s) (hu:Attrs w u l) (hsm:SmallS s) (hl:l.length≤1000000) :
  Calls Tryz.prog 93 #[v,u] w (RetI w (fitsGo s.defs ByteArray.empty false l)):=by
 obtain ⟨dv,rfl,hd⟩:=hv
 obtain ⟨s1,s2⟩:=hsm
 have S2:Hid (∀d∈s.defs,SmallD d):=s2
 have HB:=Lib.hid (SchAt.box w s dv 24 hd)
 have hw0:Below w.heap.size w (w.alloc (.cells #[.int .i64 s.dims, .int .i64 s.metric,dv] 24)):=below_alloc _ _
 have HU:=Lib.hid (hu.below hw0)
 obtain ⟨a,cap,b,off,rfl,hcap,hm,ha,hc⟩:=HU.out.open
 clear s2 hd hu
 go_enter Tryz.func93,Tryz.ntmps93
 go_wp2
 generalize hw:w.alloc (.cells #[.int .i64 s.dims, .int .i64 s.metric,dv] 24)=w0 at *
 have hsz:w.heap.size+1=w0.heap.size:=by rw [←hw];simp
 simp only [hsz]
 have hsz' : w.heap.size < w0.heap.size:=by omega
 clear hw hsz
 have hda:=HB.out.2.2.2.open
 go_loopw [14] (fun i wr=>∃(k:Nat) (bf:ByteArray),k≤l.length∧i = .int .i64 k∧Below w0.heap.size w0 wr∧w0.heap.size < wr.heap.size∧wr.cell? ⟨w0.heap.size,0,none⟩=some (.string bf)∧wr.frozen? ⟨w0.heap.size,0,none⟩=false∧Hid (fitsGo s.defs ByteArray.empty false l=fitsGo s.defs bf false (l.drop k))) (fun i _=>l.length - (intOf i).toNat)
 case atStart=>exact ⟨0,ByteArray.empty,by omega,rfl,below_alloc _ _,by simp,by simp;rfl,by simp,rfl⟩
 case round=>
  obtain ⟨k,bf,hk,rfl,hb,hlt5,c5,f5,hh⟩:=hrel
  obtain ⟨a2,cap2,b2,off2,rfl,hcap2,hm2,ha2,hc2⟩:=hda
  have HS:=Lib.hid (HB.out.below hb)
  have c2:=HS.out.2.2.1
  by_cases hlt:k < l.length
  ·obtain ⟨y,hy⟩:=ints_get l k (by omega)
   have hy0:=hc.out k y hy
   have hbl:b < w0.heap.size:=hy0.lt
   obtain ⟨d0,d1,d2,d3⟩:=hy0.below hb
   have hbw:=hb.size
   have hlt6:w.heap.size < wr.heap.size:=by omega
   have hbl2:b < wr.heap.size:=by omega
   have H:=Lib.hid (fitsGo_drop s.defs l k bf y hy)
   obtain rfl:=ha (by omega)
   clear hc hy ha hy0
   go_wp2_with fail
   have hba:=below_alloc wr (.cells #[.string y.name, .int .i64 y.kind, .int .i64 y.n, .string y.s] 79)
   have AT:=Lib.hid (AttrAt.box wr y 79)
   have hga:wr.heap.size < (wr.alloc (.cells #[.string y.name, .int .i64 y.kind, .int .i64 y.n, .string y.s] 79)).heap.size:=by simp
   clear d0 d1 d2 d3
   generalize wr.alloc (.cells #[.string y.name, .int .i64 y.kind, .int .i64 y.n, .string y.s] 79)=wa at *
   refine (indexDef _ s.defs _ _ (fun d=>eqB d.name y.name) wa (HS.out.below hba).2.2.2 (by omega) cF1 (fun x hx wv w' hb' => fits1 _ x wv y w' (AT.out.below hb').1)).mono ?_
   rintro e w1 ⟨rfl,hb1⟩
   have hbr:=blift hba hb1
   have hb2:=blift hb hbr
   have AT1:=Lib.hid (AT.out.below hb1)
   have c5':=below_cell hbr c5
   have f5' : w1.frozen? ⟨w0.heap.size,0,none⟩=false:=by rw [hbr.frozen hlt5,f5]
   have c2':=below_cell hbr c2
   have hs1:=hb1.size
   have g1:wr.heap.size < w1.heap.size:=by omega
   clear c5 f5 c2 AT HS hba hb1 hbr hga hs1
   rcases findI_cases s.defs y.name with hf|⟨q,d,hf,hd⟩
   ·have F:=Lib.hid (fitE_none s.defs bf false y (by omega))
    unfold findI at hf
    rw [hf]
    clear hf hc2 ha2
    go_wp2
    go_ret
    exact RetI.mk (by rw [hh.out,H.out,F.out];rfl) (blift hw0 hb2)
   ·have F:=Lib.hid (fitE_some s.defs bf y q d hf hd)
    unfold findI at hf
    rw [hf]
    have hq:q < s.defs.length:=(List.getElem?_eq_some_iff.1 hd).1
    obtain ⟨wv,hdd,hds⟩:=hc2.out q d hd
    obtain ⟨e0,e1,e2,e3,e4⟩:=hdd.below hb2
    have DS:=Lib.hid (hds.below hb2)
    have hw:=(S2.out d (List.mem_of_getElem? hd)).2.1
    have hb2l:b2 < w1.heap.size:=World.block_lt_of_cell? _ _ e0
    obtain rfl:=ha2 (by omega)
    obtain ⟨a0,a1,a2',a3⟩:=AT1.out
    clear hf hd hc2 ha2 hdd hds
    obtain ⟨a5,cap5,b5,off5,rfl,-,-,-,-⟩:=DS.out.open
    have g2:w.heap.size < w1.heap.size:=by omega
    have g3:w0.heap.size < w1.heap.size:=by omega
    have hq2:decide ((q:Int) < 0)=false:=by simp only [decide_eq_false_iff_not];omega
    go_wp2
    go_region
    all_goals (try go_wp2_with fail)
    all_goals
     first
     |refine (runF1 AT1.out c5' DS.out hw rfl rfl).mono ?_
     |refine (runF2 AT1.out c5' DS.out hw rfl rfl).mono ?_
     rintro e w2 ⟨rfl,hb4⟩
     have hs4:=hb4.size
     have c6:=below_cell hb4 c5'
     have f6:w2.frozen? ⟨w0.heap.size,0,none⟩=false:=by rw [hb4.frozen g3,f5']
     have a6:=below_cell hb4 a0
     have hb5:=blift hb2 hb4
     clear hb4 c5' f5' a0 a1 a2' a3 e0 e1 e2 e3 e4 c2'
     by_cases hz:firstE (fitR d bf y)=0
     ·rw [hz] at F ⊢
      go_wp2
      go_roundw
      case rel=>
       refine ⟨k+1,y.name,by omega,by go_num,hb5.setCell (Nat.le_refl _) _,?_,?_,?_,by rw [Hid,hh.out,H.out,F.out];rfl⟩
       ·simp only [World.setCell,Array.size_modify];omega
       ·exact World.cell?_setCell_same _ _ _ c6
       ·rw [World.frozen?_setCell];exact f6
      case measure=>simp [intOf];omega
     ·have hz' : (firstE (fitR d bf y) != 0)=true:=by simp [hz]
      have HZ:=Lib.hid hz
      generalize firstE (fitR d bf y)=x at *
      clear hz
      go_wp2
      go_ret
      exact RetI.mk (by rw [hh.out,H.out,F.out,if_pos HZ.out]) (blift hw0 hb5)
  ·clear hc ha hc2 ha2
   go_wp2
   go_ret
   exact RetI.mk (by rw [hh.out,fitsGo_end _ _ _ _ _ (by omega)]) (blift hw0 hb)
theorem ba_beq (a b:ByteArray):(a == b)=true↔a=b:=by
 obtain ⟨a⟩:=a
 obtain ⟨b⟩:=b
 have:((⟨a⟩:ByteArray) == ⟨b⟩)=(a == b):=rfl
 rw [this,ByteArray.mk.injEq,beq_iff_eq]
def eqAttrB (a b:PAttr):Bool:=a.name == b.name && (a.kind == b.kind && (a.n == b.n && (a.s == b.s && true)))
theorem eqAttrB_iff (a b:PAttr):eqAttrB a b=true↔a=b:=by
 obtain ⟨n1,k1,x1,s1⟩:=a
 obtain ⟨n2,k2,x2,s2⟩:=b
 simp [eqAttrB,ba_beq]
instance:DecidableEq PAttr:=fun a b=>decidable_of_iff _ (eqAttrB_iff a b)
end
end Go.Proofs.YtoamkpgaaanafaaGreat
