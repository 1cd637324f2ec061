/- Out of: AttrC. -/
import Derived.Laws.RangeAny
import Derived.Lib.OthersKept
import Derived.Outline
import Derived.Laws.EntriesVeiled
import Derived.Test.YtoamkpgaaanafaaGreatM3
namespace Go.Proofs.YtoamkpgaaanafaaGreat
set_option linter.unusedSimpArgs false
set_option linter.unusedVariables false
set_option linter.unnecessarySimpa false
section
open Go.RowKit
structure Rule where
 f:Nat
 caps:Array Value
 b:Bool
 e:Int
def ruleC (r:Rule):List Value := [.func (.func r.f) #[] r.caps, .int .i64 r.e]
def Rules (w:World) (v:Value) (rs:List Rule):Prop:=RdS w v 2 (rs.map ruleC)
theorem Rules.open {w:World} {v:Value} {l:List Rule} (h:Rules w v l):∃a cap b off,v = .slice a l.length cap∧l.length≤cap∧cap≤maxLen ∧
  (0 < l.length→a=some ⟨b,off,none⟩)∧Hid (∀i x,l[i]? = some x→w.cell? ⟨b,off+i * 2,none⟩=some (.func (.func x.f) #[] x.caps)∧w.cell? ⟨b,off+i * 2+1,none⟩=some (.int .i64 x.e)):=by
 obtain ⟨a,cap,b,off,h1,h2,h3,h4,h5⟩:=h
 simp only [List.length_map] at h1 h2 h4
 refine ⟨a,cap,b,off,h1,h2,h3,h4,fun i x hx=>?_⟩
 have e:(l.map ruleC)[i]? = some (ruleC x):=by simp [hx]
 exact ⟨h5 i 0 _ _ e rfl,h5 i 1 _ _ e rfl⟩
def CallOk (f:Nat):Prop:=∀(args:Array Value) (w:World),(callFunc f args).run Tryz.prog w = .ok (.enter f args) w
set_option maxRecDepth 100000 in
set_option maxHeartbeats 400000 in
theorem attrFirst (v:Value) (rs:List Rule) (w:World) (hv:Rules w v rs) (hl:rs.length≤1000) (hcf:Hid (∀r∈rs,CallOk r.f))
  (hr:Hid (∀r∈rs,∀w',Below w.heap.size w w'→Calls Tryz.prog r.f r.caps w' (RetB w' r.b))) :
  Calls Tryz.prog 87 #[v] w (RetI w (firstE (rs.map fun r=>(r.b,r.e)))):=by
 obtain ⟨a,cap,b,off,rfl,hcap,hm,ha,hc⟩:=hv.open
 clear hv
 go_enter Tryz.func87,Tryz.ntmps87
 go_wp2
 go_loopw [7] (fun i wr=>∃k:Nat,k≤rs.length∧i = .int .i64 k∧Below w.heap.size w wr∧Hid (firstE (rs.map fun r=>(r.b,r.e))=firstE ((rs.map fun r=>(r.b,r.e)).drop k))) (fun i _=>rs.length - (intOf i).toNat)
 case atStart=>exact ⟨0,by omega,rfl,Below.refl _ _,rfl⟩
 case round=>
  obtain ⟨k,hk,rfl,hb,hh⟩:=hrel
  by_cases hlt:k < rs.length
  ·obtain ⟨y,hy⟩:=ints_get rs k (by omega)
   obtain ⟨c0',c1'⟩:=hc.out k y hy
   have c0:=below_cell hb c0'
   have c1:=below_cell hb c1'
   clear c0' c1'
   obtain rfl:=ha (by omega)
   have hm:=List.mem_of_getElem? hy
   have H:Hid (_=_):=firstE_drop (rs.map fun r=>(r.b,r.e)) k y.b y.e (by simp [hy])
   have hcf1:=hcf.out y hm
   have hr1:Hid (∀w',Below w.heap.size w w'→Calls Tryz.prog y.f y.caps w' (RetB w' y.b)):=hr.out y hm
   have hbl:=World.block_lt_of_cell? _ _ c0
   clear hr hcf
   obtain ⟨yf,yc,yb,ye⟩:=y
   simp only at hcf1 c0 c1 H hr1
   unfold CallOk at hcf1
   clear ha hy hm hc
   cases yb
   ·go_wp2_with fail
    refine (hr1.out _ (hb.trans ((below_alloc _ _).mono hb.size))).mono ?_
    rintro e w1 ⟨rfl,hb1⟩
    go_wp2
    go_roundw
    case rel=>exact ⟨k+1,by omega,by go_num,(hb.trans ((below_alloc _ _).mono hb.size)).trans (hb1.mono (by have:=hb.size;simp;omega)),by rw [Hid,hh.out,H.out];rfl⟩
    case measure=>simp [intOf];omega
   ·go_wp2_with fail
    refine (hr1.out _ (hb.trans ((below_alloc _ _).mono hb.size))).mono ?_
    rintro e w1 ⟨rfl,hb1⟩
    have d1:w1.cell? ⟨wr.heap.size,1,none⟩=some (.int .i64 ye):=below_cell hb1 (by simp)
    go_wp2
    go_ret
    exact RetI.mk (by rw [hh.out,H.out];rfl) ((hb.trans ((below_alloc _ _).mono hb.size)).trans (hb1.mono (by have:=hb.size;simp;omega)))
  ·go_wp2
   go_ret
   exact RetI.mk (by rw [hh.out,firstE_end _ _ (by simp;omega)]) hb
set_option maxRecDepth 100000 in
set_option maxHeartbeats 400000 in
theorem indexAttr (v:Value) (l:List PAttr) (F g:Nat) (p:PAttr→Bool) (w:World) (hv:Attrs w v l) (hl:l.length≤1000000000) (hcf:CallOk F)
  (hr:Hid (∀x∈l,∀w',Below w.heap.size w w'→Calls Tryz.prog F #[attrV x, .pointer (some ⟨g,0,none⟩)] w' (RetB w' (p x)))) :
  Calls Tryz.prog 97 #[v, .func (.func F) #[] #[.pointer (some ⟨g,0,none⟩)]] w (RetI w (idxB (l.map p))):=by
 obtain ⟨a,cap,b,off,rfl,hcap,hm,ha,hc⟩:=hv.open
 unfold CallOk at hcf
 clear hv
 go_enter Tryz.func97,Tryz.ntmps97
 go_wp2
 go_loopw [8] (fun i wr=>∃k:Nat,k≤l.length∧i = .int .i64 k∧Below w.heap.size w wr∧Hid (idxB (l.map p)=idxGo ((l.map p).drop k) k)) (fun i _=>l.length - (intOf i).toNat)
 case atStart=>exact ⟨0,by omega,rfl,Below.refl _ _,rfl⟩
 case round=>
  obtain ⟨k,hk,rfl,hb,hh⟩:=hrel
  by_cases hlt:k < l.length
  ·obtain ⟨y,hy⟩:=ints_get l k (by omega)
   obtain ⟨c0,c1,c2,c3⟩:=(hc.out k y hy).below hb
   obtain rfl:=ha (by omega)
   have hm:=List.mem_of_getElem? hy
   have H:Hid (_=_):=idxGo_drop (l.map p) k (p y) (by simp [hy])
   have hr1:Hid (∀w',Below w.heap.size w w'→Calls Tryz.prog F #[attrV y, .pointer (some ⟨g,0,none⟩)] w' (RetB w' (p y))):=hr.out y hm
   unfold attrV at hr1
   clear hr ha hy hm hc
   cases e:p y
   ·have E:=Lib.hid e
    clear e
    go_wp2_with fail
    refine (hr1.out _ hb).mono ?_
    rintro e w1 ⟨rfl,hb1⟩
    rw [E.out]
    go_wp2
    go_roundw
    case rel=>exact ⟨k+1,by omega,by go_num,hb.trans (hb1.mono hb.size),by rw [Hid,hh.out,H.out,E.out];rfl⟩
    case measure=>simp [intOf];omega
   ·have E:=Lib.hid e
    clear e
    go_wp2_with fail
    refine (hr1.out _ hb).mono ?_
    rintro e w1 ⟨rfl,hb1⟩
    rw [E.out]
    go_wp2
    go_ret
    exact RetI.mk (by rw [hh.out,H.out,E.out];rfl) (hb.trans (hb1.mono hb.size))
  ·go_wp2
   go_ret
   exact RetI.mk (by rw [hh.out,idxGo_end _ _ (by simp;omega)]) hb
set_option maxRecDepth 100000 in
set_option maxHeartbeats 400000 in
theorem indexDef (v:Value) (l:List PDef) (F g:Nat) (p:PDef→Bool) (w:World) (hv:Defs w v l) (hl:l.length≤1000000000) (hcf:CallOk F)
  (hr:Hid (∀x∈l,∀wv,∀w',Below w.heap.size w w'→Calls Tryz.prog F #[defV x wv, .pointer (some ⟨g,0,none⟩)] w' (RetB w' (p x)))) :
  Calls Tryz.prog 175 #[v, .func (.func F) #[] #[.pointer (some ⟨g,0,none⟩)]] w (RetI w (idxB (l.map p))):=by
 obtain ⟨a,cap,b,off,rfl,hcap,hm,ha,hc⟩:=hv.open
 unfold CallOk at hcf
 clear hv
 go_enter Tryz.func175,Tryz.ntmps175
 go_wp2
 go_loopw [8] (fun i wr=>∃k:Nat,k≤l.length∧i = .int .i64 k∧Below w.heap.size w wr∧Hid (idxB (l.map p)=idxGo ((l.map p).drop k) k)) (fun i _=>l.length - (intOf i).toNat)
 case atStart=>exact ⟨0,by omega,rfl,Below.refl _ _,rfl⟩
 case round=>
  obtain ⟨k,hk,rfl,hb,hh⟩:=hrel
  by_cases hlt:k < l.length
  ·obtain ⟨y,hy⟩:=ints_get l k (by omega)
   obtain ⟨wv,hd,hs⟩:=hc.out k y hy
   obtain ⟨c0,c1,c2,c3,c4⟩:=hd.below hb
   clear hd hs
   obtain rfl:=ha (by omega)
   have hm:=List.mem_of_getElem? hy
   have H:Hid (_=_):=idxGo_drop (l.map p) k (p y) (by simp [hy])
   have hr1:Hid (∀w',Below w.heap.size w w'→Calls Tryz.prog F #[defV y wv, .pointer (some ⟨g,0,none⟩)] w' (RetB w' (p y))):=hr.out y hm wv
   unfold defV at hr1
   clear hr ha hy hm hc
   cases e:p y
   ·have E:=Lib.hid e
    clear e
    go_wp2_with fail
    refine (hr1.out _ hb).mono ?_
    rintro e w1 ⟨rfl,hb1⟩
    rw [E.out]
    go_wp2
    go_roundw
    case rel=>exact ⟨k+1,by omega,by go_num,hb.trans (hb1.mono hb.size),by rw [Hid,hh.out,H.out,E.out];rfl⟩
    case measure=>simp [intOf];omega
   ·have E:=Lib.hid e
    clear e
    go_wp2_with fail
    refine (hr1.out _ hb).mono ?_
    rintro e w1 ⟨rfl,hb1⟩
    rw [E.out]
    go_wp2
    go_ret
    exact RetI.mk (by rw [hh.out,H.out,E.out];rfl) (hb.trans (hb1.mono hb.size))
  ·go_wp2
   go_ret
   exact RetI.mk (by rw [hh.out,idxGo_end _ _ (by simp;omega)]) hb
set_option maxRecDepth 100000 in
set_option maxHeartbeats 400000 in
theorem indexStr (v:Value) (l:List ByteArray) (F:Nat) (p:ByteArray→Bool) (w:World) (hv:Strs w v l) (hl:l.length≤1000000000) (hcf:CallOk F)
  (hr:Hid (∀x∈l,∀w',Below w.heap.size w w'→Calls Tryz.prog F #[.string x] w' (RetB w' (p x)))) :
  Calls Tryz.prog 185 #[v, .func (.func F) #[] #[]] w (RetI w (idxB (l.map p))):=by
 obtain ⟨a,cap,b,off,rfl,hcap,hm,ha,hc⟩:=hv.open
 unfold CallOk at hcf
 clear hv
 go_enter Tryz.func185,Tryz.ntmps185
 go_wp2
 go_loopw [8] (fun i wr=>∃k:Nat,k≤l.length∧i = .int .i64 k∧Below w.heap.size w wr∧Hid (idxB (l.map p)=idxGo ((l.map p).drop k) k)) (fun i _=>l.length - (intOf i).toNat)
 case atStart=>exact ⟨0,by omega,rfl,Below.refl _ _,rfl⟩
 case round=>
  obtain ⟨k,hk,rfl,hb,hh⟩:=hrel
  by_cases hlt:k < l.length
  ·obtain ⟨y,hy⟩:=ints_get l k (by omega)
   have c0:=below_cell hb (hc.out k y hy)
   obtain rfl:=ha (by omega)
   have hm:=List.mem_of_getElem? hy
   have H:Hid (_=_):=idxGo_drop (l.map p) k (p y) (by simp [hy])
   have hr1:Hid (∀w',Below w.heap.size w w'→Calls Tryz.prog F #[.string y] w' (RetB w' (p y))):=hr.out y hm
   clear hr ha hy hm hc
   cases e:p y
   ·have E:=Lib.hid e
    clear e
    go_wp2_with fail
    refine (hr1.out _ hb).mono ?_
    rintro e w1 ⟨rfl,hb1⟩
    rw [E.out]
    go_wp2
    go_roundw
    case rel=>exact ⟨k+1,by omega,by go_num,hb.trans (hb1.mono hb.size),by rw [Hid,hh.out,H.out,E.out];rfl⟩
    case measure=>simp [intOf];omega
   ·have E:=Lib.hid e
    clear e
    go_wp2_with fail
    refine (hr1.out _ hb).mono ?_
    rintro e w1 ⟨rfl,hb1⟩
    rw [E.out]
    go_wp2
    go_ret
    exact RetI.mk (by rw [hh.out,H.out,E.out];rfl) (hb.trans (hb1.mono hb.size))
  ·go_wp2
   go_ret
   exact RetI.mk (by rw [hh.out,idxGo_end _ _ (by simp;omega)]) hb
set_option maxRecDepth 100000 in
set_option maxHeartbeats 400000 in
theorem containsStr (v:Value) (l:List ByteArray) (F:Nat) (p:ByteArray→Bool) (w:World) (hv:Strs w v l) (hl:l.length≤1000000000) (hcf:CallOk F)
  (hr:Hid (∀x∈l,∀w',Below w.heap.size w w'→Calls Tryz.prog F #[.string x] w' (RetB w' (p x)))) :
  Calls Tryz.prog 104 #[v, .func (.func F) #[] #[]] w (RetB w (l.any p)):=by
 have H:Hid (decide (0≤idxB (l.map p))=l.any p):=by rw [Hid,idxB_any,List.any_map];rfl
 have HCF:=Lib.hid hcf
 clear hcf
 go_enter Tryz.func104,Tryz.ntmps104
 go_wp2_with (go_at_call 185;refine (indexStr _ l F p _ hv hl HCF.out hr).mono ?_;rintro e w' ⟨rfl,hb⟩)
 go_ret
 exact RetB.mk H.out hb
end
end Go.Proofs.YtoamkpgaaanafaaGreat
