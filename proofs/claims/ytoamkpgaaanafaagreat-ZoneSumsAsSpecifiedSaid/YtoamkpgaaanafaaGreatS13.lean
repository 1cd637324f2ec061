/- Merged: AttrN, AttrO, AttrP. -/
import Derived.Lib.Hide
import Derived.StillTailTactics
import Derived.Test.YtoamkpgaaanafaaGreatS8
import Derived.Test.YtoamkpgaaanafaaGreatS12
/- Walks: Fits of attr. -/
namespace Go.Proofs.YtoamkpgaaanafaaGreat
set_option linter.unusedSimpArgs false
set_option linter.unusedVariables false
set_option linter.unnecessarySimpa false
open Go.RowKit
theorem findI_cases (ds:List PDef) (nm:ByteArray):findI ds nm = -1∨∃(k:Nat) (d:PDef),findI ds nm=k∧ds[k]? = some d:=by
 by_cases h:findI ds nm < 0
 ·left;have:=idxB_ge (ds.map fun d=>eqB d.name nm);unfold findI at *; omega
 ·right
  have h1:=idxB_lt (ds.map fun d=>eqB d.name nm) (by unfold findI at h;omega)
  rw [List.length_map] at h1
  refine ⟨(findI ds nm).toNat,ds[(findI ds nm).toNat]'(by unfold findI at *; omega),by omega,by simp⟩
theorem EnvF.box1 {a:PAttr} {d:PDef} {wv:Value} {bf:ByteArray} {g h:Nat} {w:World} (ha:AttrAt w g 0 a) (hb:w.cell? ⟨h,0,none⟩=some (.string bf)) (hs:Strs w wv d.words) (o:Obj) :
  EnvF a d wv bf g h w.heap.size (w.heap.size+1) (((w.alloc (.cells #[.string d.name, .int .i64 d.kind, .int .i64 d.lo, .int .i64 d.hi,wv] 77)).alloc (.cells #[.bool (a.kind == 1)] 4)).alloc o):=by
 refine EnvF.below ⟨ha.below (below_two _ _ _),below_cell (below_two _ _ _) hb,(DefAt.box w d wv _).below (below_alloc _ _),hs.below (below_two _ _ _),?_⟩ (below_alloc _ _)
 simp
theorem EnvF.box2 {a:PAttr} {d:PDef} {wv:Value} {bf:ByteArray} {g h:Nat} {w:World} (ha:AttrAt w g 0 a) (hb:w.cell? ⟨h,0,none⟩=some (.string bf)) (hs:Strs w wv d.words) (o:Obj) :
  EnvF a d wv bf g h (w.heap.size+1) w.heap.size (((w.alloc (.cells #[.bool (a.kind == 1)] 4)).alloc (.cells #[.string d.name, .int .i64 d.kind, .int .i64 d.lo, .int .i64 d.hi,wv] 77)).alloc o):=by
 refine EnvF.below ⟨ha.below (below_two _ _ _),below_cell (below_two _ _ _) hb,?_,hs.below (below_two _ _ _),below_cell (below_alloc _ _) (by simp)⟩ (below_alloc _ _)
 have:=DefAt.box (w.alloc (.cells #[.bool (a.kind == 1)] 4)) d wv 77
 simpa using this
theorem below_drew1 {w w' : World} (h:Below w.heap.size w w'):Below w.heap.size w w'.drew:=h.drew
theorem EnvF.drew {a:PAttr} {d:PDef} {wv:Value} {bf:ByteArray} {g h k q:Nat} {w:World} (e:EnvF a d wv bf g h k q w):EnvF a d wv bf g h k q w.drew:=e.below ((Below.refl _ _).drew)
theorem Rules.drew {w:World} {v:Value} {rs:List Rule} (h:Rules w v rs):Rules w.drew v rs:=h
theorem runF1 {a:PAttr} {d:PDef} {wv:Value} {bf:ByteArray} {g h n:Nat} {T:TypeId} {cs:Array Value} {w:World} (ha:AttrAt w g 0 a) (hb:w.cell? ⟨h,0,none⟩=some (.string bf)) (hs:Strs w wv d.words) (hl:d.words.length≤1000)
  (hn:n=w.heap.size+1+1) (hcs:cs=((rulesF a d bf g h w.heap.size (w.heap.size+1)).map ruleC).flatten.toArray) :
  Calls Tryz.prog 87 #[.slice (some ⟨n,0,none⟩) 5 5] (((w.alloc (.cells #[.string d.name, .int .i64 d.kind, .int .i64 d.lo, .int .i64 d.hi,wv] 77)).alloc (.cells #[.bool (a.kind == 1)] 4)).alloc (.cells cs T)).drew (RetI w (firstE (fitR d bf a))):=by
 refine (runF ((EnvF.box1 ha hb hs _).drew) hl _ (Rules.drew (Rules.mk (rulesF a d bf _ _ _ _) (Nat.le_of_ble_eq_true rfl) (by simp [hn]) rfl hcs))).mono ?_
 rintro e w' ⟨rfl,hb'⟩
 exact ⟨rfl,blift (below_drew1 (below_three _ _ _ _)) hb'⟩
theorem runF2 {a:PAttr} {d:PDef} {wv:Value} {bf:ByteArray} {g h n:Nat} {T:TypeId} {cs:Array Value} {w:World} (ha:AttrAt w g 0 a) (hb:w.cell? ⟨h,0,none⟩=some (.string bf)) (hs:Strs w wv d.words) (hl:d.words.length≤1000)
  (hn:n=w.heap.size+1+1) (hcs:cs=((rulesF a d bf g h (w.heap.size+1) w.heap.size).map ruleC).flatten.toArray) :
  Calls Tryz.prog 87 #[.slice (some ⟨n,0,none⟩) 5 5] (((w.alloc (.cells #[.bool (a.kind == 1)] 4)).alloc (.cells #[.string d.name, .int .i64 d.kind, .int .i64 d.lo, .int .i64 d.hi,wv] 77)).alloc (.cells cs T)).drew (RetI w (firstE (fitR d bf a))):=by
 refine (runF ((EnvF.box2 ha hb hs _).drew) hl _ (Rules.drew (Rules.mk (rulesF a d bf _ _ _ _) (Nat.le_of_ble_eq_true rfl) (by simp [hn]) rfl hcs))).mono ?_
 rintro e w' ⟨rfl,hb'⟩
 exact ⟨rfl,blift (below_drew1 (below_three _ _ _ _)) hb'⟩
set_option maxRecDepth 100000 in
set_option maxHeartbeats 1000000 in
theorem attrFits (v u:Value) (s:PSchema) (l:List PAttr) (w:World) (hv:SchemaV w v s) (hu:Attrs w u l) (hsm:SmallS s) (hl:l.length≤1000000) :
  Calls Tryz.prog 93 #[v,u] w (RetI w (fitsGo s.defs ByteArray.empty false l)):=by
 obtain ⟨dv,rfl,hd⟩:=hv
 obtain ⟨s1,s2⟩:=hsm
 have S2:Hid (∀d∈s.defs,SmallD d):=s2
 have HB:=Lib.hid (SchAt.box w s dv 24 hd)
 have hw0:Below w.heap.size w (w.alloc (.cells #[.int .i64 s.dims, .int .i64 s.metric,dv] 24)):=below_alloc _ _
 have HU:=Lib.hid (hu.below hw0)
 obtain ⟨a,cap,b,off,rfl,hcap,hm,ha,hc⟩:=HU.out.open
 clear s2 hd hu
 go_enter Tryz.func93,Tryz.ntmps93
 go_wp2
 generalize hw:w.alloc (.cells #[.int .i64 s.dims, .int .i64 s.metric,dv] 24)=w0 at *
 have hsz:w.heap.size+1=w0.heap.size:=by rw [←hw];simp
 simp only [hsz]
 have hsz' : w.heap.size < w0.heap.size:=by omega
 clear hw hsz
 have hda:=HB.out.2.2.2.open
 go_loopw [14] (fun i wr=>∃(k:Nat) (bf:ByteArray),k≤l.length∧i = .int .i64 k∧Below w0.heap.size w0 wr∧w0.heap.size < wr.heap.size∧wr.cell? ⟨w0.heap.size,0,none⟩=some (.string bf)∧wr.frozen? ⟨w0.heap.size,0,none⟩=false∧Hid (fitsGo s.defs ByteArray.empty false l=fitsGo s.defs bf false (l.drop k))) (fun i _=>l.length - (intOf i).toNat)
 case atStart=>exact ⟨0,ByteArray.empty,by omega,rfl,below_alloc _ _,by simp,by simp;rfl,by simp,rfl⟩
 case round=>
  obtain ⟨k,bf,hk,rfl,hb,hlt5,c5,f5,hh⟩:=hrel
  obtain ⟨a2,cap2,b2,off2,rfl,hcap2,hm2,ha2,hc2⟩:=hda
  have HS:=Lib.hid (HB.out.below hb)
  have c2:=HS.out.2.2.1
  by_cases hlt:k < l.length
  ·obtain ⟨y,hy⟩:=ints_get l k (by omega)
   have hy0:=hc.out k y hy
   have hbl:b < w0.heap.size:=hy0.lt
   obtain ⟨d0,d1,d2,d3⟩:=hy0.below hb
   have hbw:=hb.size
   have hlt6:w.heap.size < wr.heap.size:=by omega
   have hbl2:b < wr.heap.size:=by omega
   have H:=Lib.hid (fitsGo_drop s.defs l k bf y hy)
   obtain rfl:=ha (by omega)
   clear hc hy ha hy0
   go_wp2_with fail
   have hba:=below_alloc wr (.cells #[.string y.name, .int .i64 y.kind, .int .i64 y.n, .string y.s] 79)
   have AT:=Lib.hid (AttrAt.box wr y 79)
   have hga:wr.heap.size < (wr.alloc (.cells #[.string y.name, .int .i64 y.kind, .int .i64 y.n, .string y.s] 79)).heap.size:=by simp
   clear d0 d1 d2 d3
   generalize wr.alloc (.cells #[.string y.name, .int .i64 y.kind, .int .i64 y.n, .string y.s] 79)=wa at *
   refine (indexDef _ s.defs _ _ (fun d=>eqB d.name y.name) wa (HS.out.below hba).2.2.2 (by omega) cF1 (fun x hx wv w' hb' => fits1 _ x wv y w' (AT.out.below hb').1)).mono ?_
   rintro e w1 ⟨rfl,hb1⟩
   have hbr:=blift hba hb1
   have hb2:=blift hb hbr
   have AT1:=Lib.hid (AT.out.below hb1)
   have c5':=below_cell hbr c5
   have f5' : w1.frozen? ⟨w0.heap.size,0,none⟩=false:=by rw [hbr.frozen hlt5,f5]
   have c2':=below_cell hbr c2
   have hs1:=hb1.size
   have g1:wr.heap.size < w1.heap.size:=by omega
   clear c5 f5 c2 AT HS hba hb1 hbr hga hs1
   rcases findI_cases s.defs y.name with hf|⟨q,d,hf,hd⟩
   ·have F:=Lib.hid (fitE_none s.defs bf false y (by omega))
    unfold findI at hf
    rw [hf]
    clear hf hc2 ha2
    go_wp2
    go_ret
    exact RetI.mk (by rw [hh.out,H.out,F.out];rfl) (blift hw0 hb2)
   ·have F:=Lib.hid (fitE_some s.defs bf y q d hf hd)
    unfold findI at hf
    rw [hf]
    have hq:q < s.defs.length:=(List.getElem?_eq_some_iff.1 hd).1
    obtain ⟨wv,hdd,hds⟩:=hc2.out q d hd
    obtain ⟨e0,e1,e2,e3,e4⟩:=hdd.below hb2
    have DS:=Lib.hid (hds.below hb2)
    have hw:=(S2.out d (List.mem_of_getElem? hd)).2.1
    have hb2l:b2 < w1.heap.size:=World.block_lt_of_cell? _ _ e0
    obtain rfl:=ha2 (by omega)
    obtain ⟨a0,a1,a2',a3⟩:=AT1.out
    clear hf hd hc2 ha2 hdd hds
    obtain ⟨a5,cap5,b5,off5,rfl,-,-,-,-⟩:=DS.out.open
    have g2:w.heap.size < w1.heap.size:=by omega
    have g3:w0.heap.size < w1.heap.size:=by omega
    have hq2:decide ((q:Int) < 0)=false:=by simp only [decide_eq_false_iff_not];omega
    go_wp2
    go_region
    all_goals (try go_wp2_with fail)
    all_goals
     first
     |refine (runF1 AT1.out c5' DS.out hw rfl rfl).mono ?_
     |refine (runF2 AT1.out c5' DS.out hw rfl rfl).mono ?_
     rintro e w2 ⟨rfl,hb4⟩
     have hs4:=hb4.size
     have c6:=below_cell hb4 c5'
     have f6:w2.frozen? ⟨w0.heap.size,0,none⟩=false:=by rw [hb4.frozen g3,f5']
     have a6:=below_cell hb4 a0
     have hb5:=blift hb2 hb4
     clear hb4 c5' f5' a0 a1 a2' a3 e0 e1 e2 e3 e4 c2'
     by_cases hz:firstE (fitR d bf y)=0
     ·rw [hz] at F ⊢
      go_wp2
      go_roundw
      case rel=>
       refine ⟨k+1,y.name,by omega,by go_num,hb5.setCell (Nat.le_refl _) _,?_,?_,?_,by rw [Hid,hh.out,H.out,F.out];rfl⟩
       ·simp only [World.setCell,Array.size_modify];omega
       ·exact World.cell?_setCell_same _ _ _ c6
       ·rw [World.frozen?_setCell];exact f6
      case measure=>simp [intOf];omega
     ·have hz' : (firstE (fitR d bf y) != 0)=true:=by simp [hz]
      have HZ:=Lib.hid hz
      generalize firstE (fitR d bf y)=x at *
      clear hz
      go_wp2
      go_ret
      exact RetI.mk (by rw [hh.out,H.out,F.out,if_pos HZ.out]) (blift hw0 hb5)
  ·clear hc ha hc2 ha2
   go_wp2
   go_ret
   exact RetI.mk (by rw [hh.out,fitsGo_end _ _ _ _ _ (by omega)]) (blift hw0 hb)
end Go.Proofs.YtoamkpgaaanafaaGreat

/- Walks: Valid of vector and antiquaryref04. -/
namespace Go.Proofs.YtoamkpgaaanafaaGreat
set_option linter.unusedSimpArgs false
set_option linter.unusedVariables false
set_option linter.unnecessarySimpa false
open Go.RowKit
def inV (x:Int):Bool:=decide (-1000≤x) && decide (x≤1000)
theorem validV_eq (v:List Int):validV v=(v.all inV && (decide (1≤v.length) && decide (v.length≤32))):=rfl
theorem all_drop {α:Type} (l:List α) (p:α→Bool) (k:Nat) (x:α) (h:l[k]? = some x):(l.drop k).all p=(p x && (l.drop (k+1)).all p):=by
 obtain ⟨hk,rfl⟩:=List.getElem?_eq_some_iff.1 h
 rw [List.drop_eq_getElem_cons (by omega),List.all_cons]
theorem all_end {α:Type} (l:List α) (p:α→Bool) (k:Nat) (h:l.length≤k):(l.drop k).all p=true:=by
 rw [List.drop_eq_nil_of_le h];rfl
theorem valid1 (b:Bool) (x:Int) (w:World):Calls Tryz.prog 100 #[.bool b, .int .i64 x] w (fun e w' => e = .returned (.bool (b && inV x))∧w=w'):=by
 unfold inV
 cases b
 ·go_enter Tryz.func100,Tryz.ntmps100
  go_wp2
  go_ret
  exact ⟨rfl,rfl⟩
 ·cases e:decide (-1000≤x)
  all_goals
   go_enter Tryz.func100,Tryz.ntmps100
   go_wp2
   go_ret
   exact ⟨ret_bool (by simp),rfl⟩
set_option maxRecDepth 100000 in
set_option maxHeartbeats 400000 in
theorem foldValid (v:Value) (l:List Int) (w:World) (hv:Ints w v l) (hl:l.length≤1000000000) :
  Calls Tryz.prog 99 #[v, .bool true, .func (.func 100) #[] #[]] w (fun e w' => e = .returned (.bool (l.all inV))∧w=w'):=by
 obtain ⟨a,cap,b,off,rfl,hcap,hm,ha,hc⟩:=hv.open
 clear hv
 go_enter Tryz.func99,Tryz.ntmps99
 go_wp2
 go_loop [1,11] (fun t i=>∃(k:Nat) (b:Bool),k≤l.length∧t = .bool b∧i = .int .i64 k∧Hid (l.all inV=(b && (l.drop k).all inV))) (fun _ i=>l.length - (intOf i).toNat)
 case atStart=>exact ⟨0,true,by omega,rfl,rfl,by simp [Hid]⟩
 case round=>
  obtain ⟨k,b,hk,rfl,rfl,hh⟩:=hrel
  by_cases hlt:k < l.length
  ·obtain ⟨y,hy⟩:=ints_get l k (by omega)
   have c0:=hc.out k y hy
   have H:=Lib.hid (all_drop l inV k y hy)
   obtain rfl:=ha (by omega)
   clear hy ha hc
   go_wp2_with fail
   refine (valid1 b y _).mono ?_
   rintro e w' ⟨rfl,rfl⟩
   go_wp2
   go_round
   case rel=>exact ⟨k+1,_,by omega,rfl,by go_num,by rw [Hid,hh.out,H.out,Bool.and_assoc]⟩
   case measure=>simp [intOf];omega
  ·clear hc ha
   go_wp2
   go_ret
   exact ⟨ret_bool (by rw [hh.out,all_end _ _ _ (by omega)];simp),rfl⟩
set_option maxRecDepth 100000 in
set_option maxHeartbeats 400000 in
theorem vectorValid (v:Value) (l:List Int) (w:World) (hv:Ints w v l) (hl:l.length≤1000000000) :
  Calls Tryz.prog 38 #[v] w (fun e w' => e = .returned (.bool (validV l))∧w=w'):=by
 have HV:=Lib.hid hv
 obtain ⟨a,cap,b,off,rfl,hcap,hm,ha,hc⟩:=hv.open
 unfold maxLen at hm
 clear hv ha hc
 rw [validV_eq]
 cases e:l.all inV
 ·have E:=Lib.hid e
  clear e
  go_enter Tryz.func38,Tryz.ntmps38
  go_wp2_with fail
  refine (foldValid _ l _ HV.out (by omega)).mono ?_
  rintro e w' ⟨rfl,rfl⟩
  rw [E.out]
  go_wp2
  go_ret
  exact ⟨ret_bool (by simp),rfl⟩
 ·have E:=Lib.hid e
  clear e
  have e1:decide ((1:Int)≤(l.length:Int))=decide (1≤l.length):=by rw [Bool.eq_iff_iff];simp only [decide_eq_true_eq];omega
  have e2:decide ((l.length:Int)≤32)=decide (l.length≤32):=by rw [Bool.eq_iff_iff];simp only [decide_eq_true_eq];omega
  cases f1:decide (1≤l.length)<;>cases f2:decide (l.length≤32)
  all_goals
   rw [f1] at e1
   rw [f2] at e2
   clear f1 f2
   go_enter Tryz.func38,Tryz.ntmps38
   go_wp2_with fail
   refine (foldValid _ l _ HV.out (by omega)).mono ?_
   rintro e w' ⟨rfl,rfl⟩
   rw [E.out]
   go_wp2
   go_ret
   exact ⟨ret_bool (by simp),rfl⟩
set_option maxRecDepth 100000 in
set_option maxHeartbeats 400000 in
theorem ref04Valid (v:Value) (l:List Int) (w:World) (hv:Ints w v l) (hl:l.length≤1000000000) :
  Calls Tryz.prog 71 #[v] w (fun e w' => e = .returned (.bool (validV l))∧w=w'):=by
 obtain ⟨a,cap,b,off,rfl,hcap,hm,ha,hc⟩:=hv.open
 unfold maxLen at hm
 clear hv
 rw [validV_eq]
 go_enter Tryz.func71,Tryz.ntmps71
 go_wp2
 go_loop [3] (fun i=>∃(k:Nat),k≤l.length∧i = .int .i64 k∧Hid (l.all inV=(l.drop k).all inV)) (fun i=>l.length - (intOf i).toNat)
 case atStart=>exact ⟨0,by omega,rfl,rfl⟩
 case round=>
  obtain ⟨k,hk,rfl,hh⟩:=hrel
  by_cases hlt:k < l.length
  ·obtain ⟨y,hy⟩:=ints_get l k (by omega)
   have c0:=hc.out k y hy
   have H:=Lib.hid (all_drop l inV k y hy)
   obtain rfl:=ha (by omega)
   clear hy ha hc
   cases e1:decide (y < -1000)
   ·cases e2:decide (1000 < y)
    ·have I:=Lib.hid (show inV y=true by simp [inV] at *; omega)
     go_wp2
     go_round
     case rel=>exact ⟨k+1,by omega,by go_num,by rw [Hid,hh.out,H.out,I.out];simp⟩
     case measure=>simp [intOf];omega
    ·have I:=Lib.hid (show inV y=false by simp [inV] at *; omega)
     go_wp2
     go_ret
     exact ⟨ret_bool (by rw [hh.out,H.out,I.out];simp),rfl⟩
   ·have I:=Lib.hid (show inV y=false by simp [inV] at *; omega)
    go_wp2
    go_ret
    exact ⟨ret_bool (by rw [hh.out,H.out,I.out];simp),rfl⟩
  ·clear hc ha
   have E:=Lib.hid (show l.all inV=true by rw [hh.out,all_end _ _ _ (by omega)])
   have e1:decide ((1:Int)≤(l.length:Int))=decide (1≤l.length):=by rw [Bool.eq_iff_iff];simp only [decide_eq_true_eq];omega
   have e2:decide ((l.length:Int)≤32)=decide (l.length≤32):=by rw [Bool.eq_iff_iff];simp only [decide_eq_true_eq];omega
   cases f1:decide (1≤l.length)<;>cases f2:decide (l.length≤32)
   all_goals
    rw [f1] at e1
    rw [f2] at e2
    have F1:=Lib.hid f1
    have F2:=Lib.hid f2
    clear f1 f2
    go_wp2
    go_ret
    exact ⟨ret_bool (by rw [E.out,F1.out,F2.out];try simp),rfl⟩
end Go.Proofs.YtoamkpgaaanafaaGreat

/- Walks: Fits of antiquaryref13. -/
namespace Go.Proofs.YtoamkpgaaanafaaGreat
set_option linter.unusedSimpArgs false
set_option linter.unusedVariables false
set_option linter.unnecessarySimpa false
open Go.RowKit
def befN (l:List PAttr) (k:Nat):ByteArray:=match k with|0=>ByteArray.empty|j+1=>match l[j]? with|some a=>a.name|none=>ByteArray.empty
theorem fitsGo_dropT (ds:List PDef) (l:List PAttr) (k:Nat) (a:PAttr) (h:l[k]? = some a):fitsGo ds (befN l k) (k == 0) (l.drop k)=if fitE ds (befN l k) (k == 0) a≠0 then fitE ds (befN l k) (k == 0) a else fitsGo ds (befN l (k+1)) (k+1 == 0) (l.drop (k+1)):=by
 obtain ⟨hk,rfl⟩:=List.getElem?_eq_some_iff.1 h
 have e:befN l (k+1)=l[k].name:=by simp only [befN,h]
 rw [List.drop_eq_getElem_cons (by omega),fitsGo,e];rfl
theorem fitE_first (ds:List PDef) (b:ByteArray) (a:PAttr) (k:Nat) (d:PDef) (h:findI ds a.name=k) (hd:ds[k]? = some d):fitE ds b true a=valueE d a:=by
 rw [fitE,if_neg (by omega),h,Int.toNat_natCast,hd];simp
theorem fitE_later (ds:List PDef) (b:ByteArray) (a:PAttr) (k:Nat) (d:PDef) (h:findI ds a.name=k) (hd:ds[k]? = some d):fitE ds b false a=if leqB a.name b then 6 else valueE d a:=by
 rw [fitE,if_neg (by omega),h,Int.toNat_natCast,hd];simp
set_option maxRecDepth 100000 in
set_option maxHeartbeats 1000000 in
theorem refFits (v u:Value) (s:PSchema) (l:List PAttr) (w:World) (hv:SchemaV w v s) (hu:Attrs w u l) (hsm:SmallS s) (hl:l.length≤1000000) :
  Calls Tryz.prog 105 #[v,u] w (RetI w (fitsE s l)):=by
 obtain ⟨dv,rfl,hd⟩:=hv
 obtain ⟨s1,s2⟩:=hsm
 have S2:Hid (∀d∈s.defs,SmallD d):=s2
 have HB:=Lib.hid (SchAt.box w s dv 24 hd)
 have hw0:Below w.heap.size w (w.alloc (.cells #[.int .i64 s.dims, .int .i64 s.metric,dv] 24)):=below_alloc _ _
 have HU:=Lib.hid (hu.below hw0)
 obtain ⟨a,cap,b,off,rfl,hcap,hm,ha,hc⟩:=HU.out.open
 clear s2 hd hu
 go_enter Tryz.func105,Tryz.ntmps105
 go_wp2
 generalize hw:w.alloc (.cells #[.int .i64 s.dims, .int .i64 s.metric,dv] 24)=w0 at *
 have hsz' : w.heap.size < w0.heap.size:=by rw [←hw];simp
 clear hw
 have hda:=HB.out.2.2.2.open
 go_loopw [5] (fun i wr=>∃(k:Nat),k≤l.length∧i = .int .i64 k∧Below w0.heap.size w0 wr∧Hid (fitsE s l=fitsGo s.defs (befN l k) (k == 0) (l.drop k))) (fun i _=>l.length - (intOf i).toNat)
 case atStart=>exact ⟨0,by omega,rfl,Below.refl _ _,rfl⟩
 case round=>
  obtain ⟨k,hk,rfl,hb,hh⟩:=hrel
  obtain ⟨a2,cap2,b2,off2,rfl,hcap2,hm2,ha2,hc2⟩:=hda
  have HS:=Lib.hid (HB.out.below hb)
  obtain ⟨s0,s1',c2,-⟩:=HS.out
  by_cases hlt:k < l.length
  ·obtain ⟨y,hy⟩:=ints_get l k (by omega)
   have hy0:=hc.out k y hy
   obtain ⟨d0,d1,d2,d3⟩:=hy0.below hb
   have H:=Lib.hid (fitsGo_dropT s.defs l k y hy)
   obtain rfl:=ha (by omega)
   have HYY:=Lib.hid hy
   clear hy ha hy0
   go_wp2
   go_still_tail 6,(by kernel_rfl)
   change wpList _ _ _ _ _ wr.drew
   have HD:=Lib.hid (HS.out.below ((Below.refl _ _).drew))
   have hbd:Below w0.heap.size w0 wr.drew:=hb.drew
   clear HS s0 s1' c2 d0 d1 d2 d3
   generalize wr.drew=wd at *
   go_wp2_with fail
   refine (refFind _ s y.name _ ⟨_,rfl,HD.out.2.2.2⟩ (by omega)).mono ?_
   rintro e w1 ⟨rfl,hb1⟩
   have hb2:=blift hbd hb1
   have HS:=Lib.hid (HD.out.below hb1)
   clear hbd hb1 HD
   rcases findI_cases s.defs y.name with hf|⟨q,d,hf,hd⟩
   ·have F:=Lib.hid (fitE_none s.defs (befN l k) (k == 0) y (by omega))
    rw [hf]
    clear hf hc2 ha2
    go_wp2
    go_ret
    exact RetI.mk (by rw [hh.out,H.out,F.out];rfl) (blift hw0 hb2)
   ·rw [hf]
    have hq:q < s.defs.length:=(List.getElem?_eq_some_iff.1 hd).1
    obtain ⟨wv,hdd,hds⟩:=hc2.out q d hd
    have DD:=Lib.hid (hdd.below hb2)
    have DS:=Lib.hid (hds.below hb2)
    obtain ⟨e0,e1,e2,e3,e4⟩:=DD.out
    have hw:=(S2.out d (List.mem_of_getElem? hd)).2.1
    obtain rfl:=ha2 (by omega)
    obtain ⟨s0,s1',c2,-⟩:=HS.out
    have HY:=Lib.hid (hc.out k y HYY.out)
    obtain ⟨d0,d1,d2,d3⟩:=HY.out.below hb2
    have hq2:decide ((q:Int) < 0)=false:=by simp only [decide_eq_false_iff_not];omega
    by_cases hk0:k=0
    ·have F:=Lib.hid (fitE_first s.defs (befN l k) y q d hf hd)
     have K0:=Lib.hid (show (k == 0)=true by simp [hk0])
     have hk1:decide (0 < k)=false:=by simp only [decide_eq_false_iff_not];omega
     clear hc2 ha2 hdd hds hf hd hc hk0
     go_wp2
     go_quiet (fail)
     go_wp2
     have hq3:Below w0.heap.size w0 (w1.drewN nq):=blift hb2 (below_drewN _ _)
     have DS3:=Lib.hid (DS.out.below (below_drewN w1 nq))
     have DD3:=DD.out.below (below_drewN w1 nq)
     have HS3:=HS.out.below (below_drewN w1 nq)
     have HY3:=HY.out.below hq3
     clear s0 s1' c2 d0 d1 d2 d3 e0 e1 e2 e3 e4 DS DD HS hb2
     generalize w1.drewN nq=wq at *
     obtain ⟨e0,e1,e2,e3,e4⟩:=DD3
     obtain ⟨s0,s1',c2,-⟩:=HS3
     obtain ⟨d0,d1,d2,d3⟩:=HY3
     go_still_tail 9,(by kernel_rfl)
     change wpList _ _ _ _ _ wq.drew
     have hb3:Below w0.heap.size w0 wq.drew:=hq3.drew
     have DT:=Lib.hid (DS3.out.below ((Below.refl _ _).drew))
     clear s0 s1' c2 d0 d1 d2 d3 e0 e1 e2 e3 e4 DS3 hq3
     generalize wq.drew=w3 at *
     go_wp2_with fail
     refine (refValue d wv y w3 DT.out hw).mono ?_
     rintro e w4 ⟨rfl,hb4⟩
     have hb5:=blift hb3 hb4
     clear hb3 hb4 DT
     by_cases hz:valueE d y=0
     ·rw [hz] at F ⊢
      go_wp2
      go_roundw
      case rel=>exact ⟨k+1,by omega,by go_num,hb5,by rw [Hid,hh.out,H.out,K0.out,F.out];rfl⟩
      case measure=>simp [intOf];omega
     ·have hz' : (valueE d y != 0)=true:=by simp [hz]
      have HZ:=Lib.hid hz
      generalize valueE d y=x at *
      clear hz
      go_wp2
      go_ret
      exact RetI.mk (by rw [hh.out,H.out,K0.out,F.out,if_pos HZ.out]) (blift hw0 hb5)
    ·have K0:=Lib.hid (show (k == 0)=false by simp [hk0])
     have hk1:decide (0 < k)=true:=by simp only [decide_eq_true_eq];omega
     obtain ⟨z,hz⟩:=ints_get l (k - 1) (by omega)
     have hbf:=Lib.hid (show befN l k=z.name by obtain ⟨j,rfl⟩:∃j,k=j+1:=⟨k - 1,by omega⟩;simp only [befN];rw [show j=j+1 - 1 by omega,hz])
     have F0:=fitE_later s.defs (befN l k) y q d hf hd
     rw [hbf.out] at F0
     have HZ0:=Lib.hid (hc.out (k - 1) z hz)
     obtain ⟨z0,z1,z2,z3⟩:=HZ0.out.below hb2
     have ez:((k:Int) - 1)=((k - 1:Nat):Int):=by omega
     clear hc2 ha2 hdd hds hf hd hc hz z1 z2 z3 hk0
     cases hq3:leqB y.name z.name
     ·have hq4:(Op.bytesLess y.name.toList z.name.toList || y.name.toList == z.name.toList)=false:=hq3
      rw [hq3] at F0
      have F:=Lib.hid (show fitE s.defs (befN l k) false y=valueE d y by rw [hbf.out];simpa using F0)
      clear F0
      go_wp2
      go_quiet (fail)
      go_wp2
      have hq3:Below w0.heap.size w0 (w1.drewN nq):=blift hb2 (below_drewN _ _)
      have DS3:=Lib.hid (DS.out.below (below_drewN w1 nq))
      have DD3:=DD.out.below (below_drewN w1 nq)
      have HS3:=HS.out.below (below_drewN w1 nq)
      have HY3:=HY.out.below hq3
      clear s0 s1' c2 d0 d1 d2 d3 e0 e1 e2 e3 e4 DS DD HS hb2 z0
      generalize w1.drewN nq=wq at *
      obtain ⟨e0,e1,e2,e3,e4⟩:=DD3
      obtain ⟨s0,s1',c2,-⟩:=HS3
      obtain ⟨d0,d1,d2,d3⟩:=HY3
      go_still_tail 9,(by kernel_rfl)
      change wpList _ _ _ _ _ wq.drew
      have hb3:Below w0.heap.size w0 wq.drew:=hq3.drew
      have DT:=Lib.hid (DS3.out.below ((Below.refl _ _).drew))
      clear s0 s1' c2 d0 d1 d2 d3 e0 e1 e2 e3 e4 DS3 hq3
      generalize wq.drew=w3 at *
      go_wp2_with fail
      refine (refValue d wv y w3 DT.out hw).mono ?_
      rintro e w4 ⟨rfl,hb4⟩
      have hb5:=blift hb3 hb4
      clear hb3 hb4 DT
      by_cases hz:valueE d y=0
      ·rw [hz] at F ⊢
       go_wp2
       go_roundw
       case rel=>exact ⟨k+1,by omega,by go_num,hb5,by rw [Hid,hh.out,H.out,K0.out,F.out];rfl⟩
       case measure=>simp [intOf];omega
      ·have hz' : (valueE d y != 0)=true:=by simp [hz]
       have HZ:=Lib.hid hz
       generalize valueE d y=x at *
       clear hz
       go_wp2
       go_ret
       exact RetI.mk (by rw [hh.out,H.out,K0.out,F.out,if_pos HZ.out]) (blift hw0 hb5)
     ·have hq4:(Op.bytesLess y.name.toList z.name.toList || y.name.toList == z.name.toList)=true:=hq3
      rw [hq3] at F0
      have F:=Lib.hid (show fitE s.defs (befN l k) false y=6 by rw [hbf.out];simpa using F0)
      clear F0
      go_wp2
      go_quiet (fail)
      go_wp2
      go_ret
      exact RetI.mk (by rw [hh.out,H.out,K0.out,F.out];rfl) (blift hw0 (blift hb2 (below_drewN _ _)))
  ·clear hc ha hc2 ha2
   go_wp2
   go_ret
   exact RetI.mk (by rw [hh.out,fitsGo_end _ _ _ _ _ (by omega)]) (blift hw0 hb)
end Go.Proofs.YtoamkpgaaanafaaGreat
