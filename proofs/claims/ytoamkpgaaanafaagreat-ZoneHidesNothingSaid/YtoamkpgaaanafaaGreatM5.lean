/- Out of: AttrA, AttrB. -/
import Derived.Laws.RangeAny
import Derived.Lib.OthersKept
import Derived.Outline
import Derived.Test.YtoamkpgaaanafaaGreatM3
namespace Go.Proofs.YtoamkpgaaanafaaGreat
set_option linter.unusedSimpArgs false
set_option linter.unusedVariables false
set_option linter.unnecessarySimpa false
section
open Go.RowKit
theorem any_drop (l:List ByteArray) (p:ByteArray→Bool) (k:Nat) (x:ByteArray) (h:l[k]? = some x):(l.drop k).any p=(p x || (l.drop (k+1)).any p):=by
 obtain ⟨hk,rfl⟩:=List.getElem?_eq_some_iff.1 h
 rw [List.drop_eq_getElem_cons (by omega),List.any_cons]
theorem any_end (l:List ByteArray) (p:ByteArray→Bool) (k:Nat) (h:l.length≤k):(l.drop k).any p=false:=by
 rw [List.drop_eq_nil_of_le h];rfl
set_option maxRecDepth 100000 in
set_option maxHeartbeats 400000 in
theorem refHasS (v:Value) (l:List ByteArray) (s:ByteArray) (w:World) (hv:Strs w v l) (hl:l.length≤1000000000) :
  Calls Tryz.prog 86 #[v, .string s] w fun e w' => e = .returned (.bool (hasB l s))∧w=w':=by
 obtain ⟨a,cap,b,off,rfl,hcap,hm,ha,hc⟩:=hv.open
 go_enter Tryz.func86,Tryz.ntmps86
 go_wp2
 go_loop [5] (fun i=>∃k:Nat,k≤l.length∧i = .int .i64 k∧Hid (hasB l s=hasB (l.drop k) s)) (fun i=>l.length - (intOf i).toNat)
 case atStart=>exact ⟨0,by omega,rfl,rfl⟩
 case round=>
  obtain ⟨k,hk,rfl,hh⟩:=hrel
  by_cases hlt:k < l.length
  ·obtain ⟨y,hy⟩:=ints_get l k (by omega)
   have c0:=hc.out k y hy
   obtain rfl:=ha (by omega)
   have H:Hid (_=_):=any_drop l (fun x=>eqB x s) k y hy
   clear ha hy
   by_cases e:eqB y s=true
   ·have e' : (y.toList == s.toList)=true:=e
    go_wp2
    go_ret
    exact ⟨ret_bool (by rw [hh.out,hasB,H.out,e];rfl),rfl⟩
   ·have e2:eqB y s=false:=by simpa using e
    have e' : (y.toList == s.toList)=false:=e2
    go_wp2
    go_round
    case rel=>exact ⟨k+1,by omega,by go_num,by rw [Hid,hh.out,hasB,H.out,e2];rfl⟩
    case measure=>simp [intOf];omega
  ·go_wp2
   go_ret
   exact ⟨ret_bool (by rw [hh.out,hasB,any_end _ _ _ (by omega)]),rfl⟩
set_option maxRecDepth 100000 in
set_option maxHeartbeats 400000 in
theorem slicesIndexS (v:Value) (l:List ByteArray) (s:ByteArray) (w:World) (hv:Strs w v l) (hl:l.length≤1000000000) :
  Calls Tryz.prog 149 #[v, .string s] w fun e w' => e = .returned (.int .i64 (idxB (l.map fun x=>eqB x s)))∧w=w':=by
 obtain ⟨a,cap,b,off,rfl,hcap,hm,ha,hc⟩:=hv.open
 go_enter Tryz.func149,Tryz.ntmps149
 go_wp2
 go_loop [8] (fun i=>∃k:Nat,k≤l.length∧i = .int .i64 k∧Hid (idxB (l.map fun x=>eqB x s)=idxGo ((l.map fun x=>eqB x s).drop k) k)) (fun i=>l.length - (intOf i).toNat)
 case atStart=>exact ⟨0,by omega,rfl,rfl⟩
 case round=>
  obtain ⟨k,hk,rfl,hh⟩:=hrel
  by_cases hlt:k < l.length
  ·obtain ⟨y,hy⟩:=ints_get l k (by omega)
   have c0:=hc.out k y hy
   obtain rfl:=ha (by omega)
   have H:Hid (_=_):=idxGo_drop (l.map fun x=>eqB x s) k (eqB y s) (by simp [hy])
   clear ha hy
   by_cases e:eqB y s=true
   ·have e' : (s.toList == y.toList)=true:=by rw [eqB_comm] at e;exact e
    go_wp2
    go_ret
    exact ⟨ret_int (by rw [hh.out,H.out,e];rfl),rfl⟩
   ·have e2:eqB y s=false:=by simpa using e
    have e' : (s.toList == y.toList)=false:=by rw [eqB_comm] at e2;exact e2
    go_wp2
    go_round
    case rel=>exact ⟨k+1,by omega,by go_num,by rw [Hid,hh.out,H.out,e2];rfl⟩
    case measure=>simp [intOf];omega
  ·go_wp2
   go_ret
   exact ⟨ret_int (by rw [hh.out,idxGo_end _ _ (by simp;omega)]),rfl⟩
set_option maxRecDepth 100000 in
set_option maxHeartbeats 400000 in
theorem slicesContainsS (v:Value) (l:List ByteArray) (s:ByteArray) (w:World) (hv:Strs w v l) (hl:l.length≤1000000000) :
  Calls Tryz.prog 73 #[v, .string s] w fun e w' => e = .returned (.bool (hasB l s))∧w=w':=by
 have H:Hid (decide (0≤idxB (l.map fun x=>eqB x s))=hasB l s):=by rw [Hid,idxB_any,List.any_map];rfl
 go_enter Tryz.func73,Tryz.ntmps73
 go_wp2_with (go_at_call 149;refine (slicesIndexS _ l s _ hv hl).mono ?_;rintro e w' ⟨rfl,rfl⟩)
 go_ret
 exact ⟨ret_bool H.out,rfl⟩
set_option maxRecDepth 100000 in
set_option maxHeartbeats 400000 in
theorem attrRising (v:Value) (l:List ByteArray) (w:World) (hv:Strs w v l) (hl:l.length≤1000000000) :
  Calls Tryz.prog 224 #[v] w fun e w' => e = .returned (.bool (riseB l))∧Still w w':=by
 obtain ⟨a,cap,b,off,rfl,hcap,hm,ha,hc⟩:=hv.open
 by_cases h0:l.length=0
 ·have hb:Hid (riseB l=true):=by rw [List.length_eq_zero_iff.1 h0];rfl
  have hlt:l.length < 1:=by omega
  clear h0
  go_enter Tryz.func224,Tryz.ntmps224
  go_wp2
  go_loop [3] (fun i=>i = .int .i64 1) (fun i=>0)
  case atStart=>rfl
  case round=>
   obtain rfl:=hrel
   go_wp2
   go_ret
   exact ⟨ret_bool hb.out.symm,Still.refl _⟩
 ·obtain rfl:=ha (by omega)
  have hpos:1≤l.length:=by omega
  clear h0 ha
  obtain ⟨x0,hx0⟩:=ints_get l 0 (by omega)
  have S0:Hid (riseB l=riseGo x0 (l.drop 1)):=riseB_start l x0 hx0
  have X0:Hid (l[0]? = some x0):=hx0
  clear hx0
  go_enter Tryz.func224,Tryz.ntmps224
  go_wp2
  go_loopw [3] (fun i wr=>∃k n:Nat,∃p,k+1≤l.length∧i = .int .i64 ((k+1:Nat):Int)∧wr=w.drewN n∧Hid (l[k]? = some p)∧Hid (riseB l=riseGo p (l.drop (k+1)))) (fun i _=>l.length - (intOf i).toNat)
  case atStart=>exact ⟨0,0,x0,by omega,rfl,rfl,X0,S0⟩
  case round=>
   obtain ⟨k,n,p,hk,rfl,rfl,hp,hh⟩:=hrel
   by_cases hlt:k+1 < l.length
   ·obtain ⟨y,hy⟩:=ints_get l (k+1) (by omega)
    have c0:=hc.out (k+1) y hy
    have c1:=hc.out k p hp.out
    have H:Hid (_=_):=riseGo_drop l k p y hy
    have Y:Hid (l[k+1]? = some y):=hy
    clear hy
    by_cases e:leqB y p=true
    ·have e' : (Op.bytesLess y.toList p.toList || y.toList == p.toList)=true:=e
     go_wp2
     go_quiet (fail)
     go_wp2
     go_ret
     exact ⟨ret_bool (by rw [hh.out,H.out,e];rfl),by first|exact Still.two _ _ _|exact Still.one _ _⟩
    ·have e2:leqB y p=false:=by simpa using e
     have e' : (Op.bytesLess y.toList p.toList || y.toList == p.toList)=false:=e2
     go_wp2
     go_quiet (fail)
     go_wp2
     go_roundw
     case rel=>exact ⟨k+1,_,y,by omega,by go_num,rfl,Y,by rw [Hid,hh.out,H.out,e2];rfl⟩
     case measure=>simp [intOf];omega
   ·go_wp2
    go_ret
    exact ⟨ret_bool (by rw [hh.out,riseGo_end _ _ _ (by omega)]),Still.one _ _⟩
theorem byteAt (s:ByteArray) (k:Nat) (h:k < s.size):s.data.toList[k]? = some (s[k]'h):=by
 rw [List.getElem?_eq_getElem (by simpa using h)];rfl
def okC (k:Nat) (c:Int):Bool:=lowI c || (!(k == 0) && resI c)
theorem nameGo_step (s:ByteArray) (k:Nat) (h:k < s.size):nameGo (k == 0) (s.data.toList.drop k)=(okC k ((s[k]'h).toNat:Int) && nameGo (k+1 == 0) (s.data.toList.drop (k+1))):=
 nameGo_drop _ _ _ (byteAt s k h)
theorem lit_reserved (w:World):Strs (w.alloc (.cells #[Value.string ⟨#[97,108,108]⟩,Value.string ⟨#[97,110,100]⟩,Value.string ⟨#[104,97,115]⟩,Value.string ⟨#[105,110]⟩,Value.string ⟨#[110,111,116]⟩,Value.string ⟨#[111,114]⟩] 9)) (.slice (some ⟨w.heap.size,0,none⟩) 6 6) reserved:=
 (Own.lit w (reserved.map Value.string) 9 w.heap.size (Nat.le_refl _) (by simp [maxLen,reserved])).rd
set_option maxRecDepth 100000 in
set_option maxHeartbeats 1000000 in
theorem refName (s : ByteArray) (w : World) (hs : s.size ≤ 1000000000) :
    Calls Tryz.prog 144 #[.string s] w (RetB w (nameB s)) := by
  go_enter Tryz.func144, Tryz.ntmps144
  go_wp2
  go_loop [3] (fun i => ∃ k : Nat, k ≤ s.size ∧ i = .int .i64 k ∧ Hid (nameGo true s.data.toList = nameGo (k == 0) (s.data.toList.drop k))) (fun i => s.size - (intOf i).toNat)
  case atStart => exact ⟨0, by omega, rfl, rfl⟩
  case round =>
    obtain ⟨k, hk, rfl, hh⟩ := hrel
    by_cases hlt : k < s.size
    · have H : Hid (_ = _) := nameGo_step s k hlt
      have bad : Hid (okC k ((s[k]'hlt).toNat : Int) = false → nameB s = false) := by
        intro h; rw [nameB, hh.out, H.out, h]; rfl
      have good : Hid (okC k ((s[k]'hlt).toNat : Int) = true → nameGo true s.data.toList = nameGo (k + 1 == 0) (s.data.toList.drop (k+1))) := by
        intro h; rw [hh.out, H.out, h]; rfl
      clear H hh
      have kk : ((k : Int) == 0) = (k == 0) := by rw [Bool.eq_iff_iff]; simp
      have KK := Lib.hid kk
      clear kk
      cases ok : okC k ((s[k]'hlt).toNat : Int) <;> cases K0 : (k == 0) <;> cases T1 : decide ((97 : Int) ≤ ((s[k]'hlt).toNat : Int)) <;> cases T2 : decide (((s[k]'hlt).toNat : Int) ≤ 122) <;> cases T3 : decide ((48 : Int) ≤ ((s[k]'hlt).toNat : Int)) <;>
        cases T4 : decide (((s[k]'hlt).toNat : Int) ≤ 57) <;> cases T5 : (((s[k]'hlt).toNat : Int) == 95)
      all_goals first
        | (exfalso; simp [okC, lowI, resI, K0, T1, T2, T3, T4, T5] at ok; done)
        | (exfalso; simp only [decide_eq_true_eq, decide_eq_false_iff_not, beq_iff_eq, beq_eq_false_iff_ne] at T1 T2 T3 T4 T5; omega)
        | skip
      all_goals
        have KI := KK.out
        rw [K0] at KI
        have OK := Lib.hid ok
        clear ok K0
        go_wp2
        first
          | (go_ret; refine RetB.mk (bad.out OK.out).symm (Below.refl _ _))
          | (go_round
             case rel => exact ⟨k + 1, by omega, by go_num, good.out OK.out⟩
             case measure => simp [intOf]; omega)
    · have HE : Hid (nameGo true s.data.toList = true) := by rw [Hid, hh.out, nameGo_end _ _ _ (by simp; omega)]
      clear hh
      by_cases h1 : 1 ≤ s.size
      · by_cases h2 : s.size ≤ 40
        · have h1' : decide ((1 : Int) ≤ (s.size : Int)) = true := by simp; omega
          have h2' : decide ((s.size : Int) ≤ 40) = true := by simp; omega
          have HN : Hid (nameB s = !hasB reserved s) := by rw [Hid, nameB, HE.out]; simp [h1, h2]
          go_wp2_with (go_at_call 86; refine (refHasS _ reserved s _ (lit_reserved w) (by decide)).mono ?_; rintro e w' ⟨rfl, rfl⟩)
          go_ret
          exact RetB.mk HN.out.symm (below_alloc _ _)
        · have h2' : decide ((s.size : Int) ≤ 40) = false := by simp; omega
          have HN : Hid (nameB s = false) := by rw [Hid, nameB, HE.out]; simp [h2]
          go_wp2
          go_ret
          exact RetB.mk HN.out.symm (Below.refl _ _)
      · have h1' : decide ((1 : Int) ≤ (s.size : Int)) = false := by simp; omega
        have HN : Hid (nameB s = false) := by rw [Hid, nameB, HE.out]; simp [h1]
        go_wp2
        go_ret
        exact RetB.mk HN.out.symm (Below.refl _ _)
theorem below_iter (w:World) (s:ByteArray) (k:Nat):Below w.heap.size w (w.iter s k):=below_alloc _ _
set_option maxRecDepth 100000 in
set_option maxHeartbeats 2000000 in
theorem attrName (s : ByteArray) (w : World) (hs : s.size ≤ 1000000000) :
    Calls Tryz.prog 214 #[.string s] w (RetB w (nameB s)) := by
  go_enter Tryz.func214, Tryz.ntmps214
  go_wp2
  go_loopw [3, 4] (fun _ _ wr => ∃ k : Nat, k ≤ s.size ∧ wr = w.iter s k ∧ Hid (nameGo true s.data.toList = nameGo (k == 0) (s.data.toList.drop k))) (fun _ _ wr => s.size - wr.iterPos w.heap.size)
  case atStart => exact ⟨0, by omega, rfl, rfl⟩
  case round =>
    obtain ⟨k, hk, rfl, hh⟩ := hrel
    by_cases hlt : k < s.size
    · have H : Hid (_ = _) := nameGo_step s k hlt
      have bad : Hid (okC k ((s[k]'hlt).toNat : Int) = false → nameB s = false) := by
        intro h; rw [nameB, hh.out, H.out, h]; rfl
      have good : Hid (okC k ((s[k]'hlt).toNat : Int) = true → nameGo true s.data.toList = nameGo (k + 1 == 0) (s.data.toList.drop (k+1))) := by
        intro h; rw [hh.out, H.out, h]; rfl
      clear H hh
      have kk : ((k : Int) == 0) = (k == 0) := by rw [Bool.eq_iff_iff]; simp
      have KK := Lib.hid kk
      clear kk
      by_cases h128 : (s[k]'hlt).toNat < 128
      · have hnx := fun ty => run_next_ascii (P := Tryz.prog) w s k ty hlt h128
        cases ok : okC k ((s[k]'hlt).toNat : Int) <;> cases K0 : (k == 0) <;> cases T1 : decide (((s[k]'hlt).toNat : Int) < 97) <;> cases T2 : decide (122 < ((s[k]'hlt).toNat : Int)) <;> cases T3 : decide (((s[k]'hlt).toNat : Int) < 48) <;>
          cases T4 : decide (57 < ((s[k]'hlt).toNat : Int)) <;> cases T5 : (((s[k]'hlt).toNat : Int) != 95)
        all_goals first
          | (exfalso; simp only [decide_eq_true_eq, decide_eq_false_iff_not, bne_iff_ne, bne_eq_false_iff_eq] at T1 T2 T3 T4 T5; omega)
          | (exfalso
             simp only [decide_eq_true_eq, decide_eq_false_iff_not, bne_iff_ne, bne_eq_false_iff_eq] at T1 T2 T3 T4 T5
             simp [okC, lowI, resI, K0] at ok
             omega)
          | skip
        all_goals
          have KI := KK.out
          rw [K0] at KI
          have OK := Lib.hid ok
          clear ok K0
          go_wp2
          first
            | (go_ret; refine RetB.mk (bad.out OK.out).symm (below_iter _ _ _))
            | (go_roundw
               case rel => exact ⟨k + 1, by omega, rfl, good.out OK.out⟩
               case measure => simp; omega)
      · have hnx := fun ty => run_next_any (P := Tryz.prog) w s k ty hlt
        have hd := (decode_high s k hlt (by omega)).1
        have OK : Hid (okC k ((s[k]'hlt).toNat : Int) = false) := by
          simp [Hid, okC, lowI, resI]
          have := (s[k]'hlt).toNat_lt
          omega
        generalize Utf8.decode s k = dd at hnx hd
        obtain ⟨r, d⟩ := dd
        simp only at hnx hd
        have T1 : decide ((r : Int) < 97) = false := by simp; omega
        have T2 : decide (122 < (r : Int)) = true := by simp; omega
        have T3 : decide ((r : Int) < 48) = false := by simp; omega
        have T4 : decide (57 < (r : Int)) = true := by simp; omega
        have T5 : ((r : Int) != 95) = true := by simp; omega
        cases K0 : (k == 0)
        all_goals
          have KI := KK.out
          rw [K0] at KI
          clear K0
          go_wp2
          go_ret
          exact RetB.mk (bad.out OK.out).symm (below_iter _ _ _)
    · have HE : Hid (nameGo true s.data.toList = true) := by rw [Hid, hh.out, nameGo_end _ _ _ (by simp; omega)]
      have hnx := fun ty => run_next_end (P := Tryz.prog) w s k ty hlt
      clear hh
      by_cases h1 : 1 ≤ s.size
      · by_cases h2 : s.size ≤ 40
        · have h1' : decide ((1 : Int) ≤ (s.size : Int)) = true := by simp; omega
          have h2' : decide ((s.size : Int) ≤ 40) = true := by simp; omega
          have HN : Hid (nameB s = !hasB reserved s) := by rw [Hid, nameB, HE.out]; simp [h1, h2]
          go_wp2_with (go_at_call 73; refine (slicesContainsS _ reserved s _ (lit_reserved (w.iter s k)) (by decide)).mono ?_; rintro e w' ⟨rfl, rfl⟩)
          go_ret
          exact RetB.mk HN.out.symm ((below_iter w s k).trans ((below_alloc _ _).mono (below_iter w s k).size))
        · have h2' : decide ((s.size : Int) ≤ 40) = false := by simp; omega
          have HN : Hid (nameB s = false) := by rw [Hid, nameB, HE.out]; simp [h2]
          go_wp2
          go_ret
          exact RetB.mk HN.out.symm (below_iter _ _ _)
      · have h1' : decide ((1 : Int) ≤ (s.size : Int)) = false := by simp; omega
        have HN : Hid (nameB s = false) := by rw [Hid, nameB, HE.out]; simp [h1]
        go_wp2
        go_ret
        exact RetB.mk HN.out.symm (below_iter _ _ _)
end
end Go.Proofs.YtoamkpgaaanafaaGreat
