/- Out of: AttrO. -/
import Derived.Test.YtoamkpgaaanafaaGreatM4
namespace Go.Proofs.YtoamkpgaaanafaaGreat
set_option linter.unusedSimpArgs false
set_option linter.unusedVariables false
set_option linter.unnecessarySimpa false
section
open Go.RowKit
def inV (x:Int):Bool:=decide (-1000≤x) && decide (x≤1000)
theorem validV_eq (v:List Int):validV v=(v.all inV && (decide (1≤v.length) && decide (v.length≤32))):=rfl
theorem all_drop {α:Type} (l:List α) (p:α→Bool) (k:Nat) (x:α) (h:l[k]? = some x):(l.drop k).all p=(p x && (l.drop (k+1)).all p):=by
 obtain ⟨hk,rfl⟩:=List.getElem?_eq_some_iff.1 h
 rw [List.drop_eq_getElem_cons (by omega),List.all_cons]
theorem all_end {α:Type} (l:List α) (p:α→Bool) (k:Nat) (h:l.length≤k):(l.drop k).all p=true:=by
 rw [List.drop_eq_nil_of_le h];rfl
theorem valid1 (b:Bool) (x:Int) (w:World):Calls Tryz.prog 100 #[.bool b, .int .i64 x] w (fun e w' => e = .returned (.bool (b && inV x))∧w=w'):=by
 unfold inV
 cases b
 ·go_enter Tryz.func100,Tryz.ntmps100
  go_wp2
  go_ret
  exact ⟨rfl,rfl⟩
 ·cases e:decide (-1000≤x)
  all_goals
   go_enter Tryz.func100,Tryz.ntmps100
   go_wp2
   go_ret
   exact ⟨ret_bool (by simp),rfl⟩
set_option maxRecDepth 100000 in
set_option maxHeartbeats 400000 in
theorem foldValid (v:Value) (l:List Int) (w:World) (hv:Ints w v l) (hl:l.length≤1000000000) :
  Calls Tryz.prog 99 #[v, .bool true, .func (.func 100) #[] #[]] w (fun e w' => e = .returned (.bool (l.all inV))∧w=w'):=by
 obtain ⟨a,cap,b,off,rfl,hcap,hm,ha,hc⟩:=hv.open
 clear hv
 go_enter Tryz.func99,Tryz.ntmps99
 go_wp2
 go_loop [1,11] (fun t i=>∃(k:Nat) (b:Bool),k≤l.length∧t = .bool b∧i = .int .i64 k∧Hid (l.all inV=(b && (l.drop k).all inV))) (fun _ i=>l.length - (intOf i).toNat)
 case atStart=>exact ⟨0,true,by omega,rfl,rfl,by simp [Hid]⟩
 case round=>
  obtain ⟨k,b,hk,rfl,rfl,hh⟩:=hrel
  by_cases hlt:k < l.length
  ·obtain ⟨y,hy⟩:=ints_get l k (by omega)
   have c0:=hc.out k y hy
   have H:=Lib.hid (all_drop l inV k y hy)
   obtain rfl:=ha (by omega)
   clear hy ha hc
   go_wp2_with fail
   refine (valid1 b y _).mono ?_
   rintro e w' ⟨rfl,rfl⟩
   go_wp2
   go_round
   case rel=>exact ⟨k+1,_,by omega,rfl,by go_num,by rw [Hid,hh.out,H.out,Bool.and_assoc]⟩
   case measure=>simp [intOf];omega
  ·clear hc ha
   go_wp2
   go_ret
   exact ⟨ret_bool (by rw [hh.out,all_end _ _ _ (by omega)];simp),rfl⟩
set_option maxRecDepth 100000 in
set_option maxHeartbeats 400000 in
theorem vectorValid (v:Value) (l:List Int) (w:World) (hv:Ints w v l) (hl:l.length≤1000000000) :
  Calls Tryz.prog 38 #[v] w (fun e w' => e = .returned (.bool (validV l))∧w=w'):=by
 have HV:=Lib.hid hv
 obtain ⟨a,cap,b,off,rfl,hcap,hm,ha,hc⟩:=hv.open
 unfold maxLen at hm
 clear hv ha hc
 rw [validV_eq]
 cases e:l.all inV
 ·have E:=Lib.hid e
  clear e
  go_enter Tryz.func38,Tryz.ntmps38
  go_wp2_with fail
  refine (foldValid _ l _ HV.out (by omega)).mono ?_
  rintro e w' ⟨rfl,rfl⟩
  rw [E.out]
  go_wp2
  go_ret
  exact ⟨ret_bool (by simp),rfl⟩
 ·have E:=Lib.hid e
  clear e
  have e1:decide ((1:Int)≤(l.length:Int))=decide (1≤l.length):=by rw [Bool.eq_iff_iff];simp only [decide_eq_true_eq];omega
  have e2:decide ((l.length:Int)≤32)=decide (l.length≤32):=by rw [Bool.eq_iff_iff];simp only [decide_eq_true_eq];omega
  cases f1:decide (1≤l.length)<;>cases f2:decide (l.length≤32)
  all_goals
   rw [f1] at e1
   rw [f2] at e2
   clear f1 f2
   go_enter Tryz.func38,Tryz.ntmps38
   go_wp2_with fail
   refine (foldValid _ l _ HV.out (by omega)).mono ?_
   rintro e w' ⟨rfl,rfl⟩
   rw [E.out]
   go_wp2
   go_ret
   exact ⟨ret_bool (by simp),rfl⟩
set_option maxRecDepth 100000 in
set_option maxHeartbeats 400000 in
theorem ref04Valid (v:Value) (l:List Int) (w:World) (hv:Ints w v l) (hl:l.length≤1000000000) :
  Calls Tryz.prog 71 #[v] w (fun e w' => e = .returned (.bool (validV l))∧w=w'):=by
 obtain ⟨a,cap,b,off,rfl,hcap,hm,ha,hc⟩:=hv.open
 unfold maxLen at hm
 clear hv
 rw [validV_eq]
 go_enter Tryz.func71,Tryz.ntmps71
 go_wp2
 go_loop [3] (fun i=>∃(k:Nat),k≤l.length∧i = .int .i64 k∧Hid (l.all inV=(l.drop k).all inV)) (fun i=>l.length - (intOf i).toNat)
 case atStart=>exact ⟨0,by omega,rfl,rfl⟩
 case round=>
  obtain ⟨k,hk,rfl,hh⟩:=hrel
  by_cases hlt:k < l.length
  ·obtain ⟨y,hy⟩:=ints_get l k (by omega)
   have c0:=hc.out k y hy
   have H:=Lib.hid (all_drop l inV k y hy)
   obtain rfl:=ha (by omega)
   clear hy ha hc
   cases e1:decide (y < -1000)
   ·cases e2:decide (1000 < y)
    ·have I:=Lib.hid (show inV y=true by simp [inV] at *; omega)
     go_wp2
     go_round
     case rel=>exact ⟨k+1,by omega,by go_num,by rw [Hid,hh.out,H.out,I.out];simp⟩
     case measure=>simp [intOf];omega
    ·have I:=Lib.hid (show inV y=false by simp [inV] at *; omega)
     go_wp2
     go_ret
     exact ⟨ret_bool (by rw [hh.out,H.out,I.out];simp),rfl⟩
   ·have I:=Lib.hid (show inV y=false by simp [inV] at *; omega)
    go_wp2
    go_ret
    exact ⟨ret_bool (by rw [hh.out,H.out,I.out];simp),rfl⟩
  ·clear hc ha
   have E:=Lib.hid (show l.all inV=true by rw [hh.out,all_end _ _ _ (by omega)])
   have e1:decide ((1:Int)≤(l.length:Int))=decide (1≤l.length):=by rw [Bool.eq_iff_iff];simp only [decide_eq_true_eq];omega
   have e2:decide ((l.length:Int)≤32)=decide (l.length≤32):=by rw [Bool.eq_iff_iff];simp only [decide_eq_true_eq];omega
   cases f1:decide (1≤l.length)<;>cases f2:decide (l.length≤32)
   all_goals
    rw [f1] at e1
    rw [f2] at e2
    have F1:=Lib.hid f1
    have F2:=Lib.hid f2
    clear f1 f2
    go_wp2
    go_ret
    exact ⟨ret_bool (by rw [E.out,F1.out,F2.out];try simp),rfl⟩
end
end Go.Proofs.YtoamkpgaaanafaaGreat
