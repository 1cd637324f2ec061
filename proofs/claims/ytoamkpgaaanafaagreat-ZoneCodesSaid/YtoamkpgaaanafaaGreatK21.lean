/- Out of: Ca. -/
import Derived.Test.YtoamkpgaaanafaaGreatK1
import Derived.Test.YtoamkpgaaanafaaGreatK2
import Derived.Test.YtoamkpgaaanafaaGreatK4
import Derived.Test.YtoamkpgaaanafaaGreatK5
import Derived.Test.YtoamkpgaaanafaaGreatK6
import Derived.Test.YtoamkpgaaanafaaGreatK8
import Derived.Test.YtoamkpgaaanafaaGreatK9
import Derived.Test.YtoamkpgaaanafaaGreatK10
import Derived.Test.YtoamkpgaaanafaaGreatK11
import Derived.Test.YtoamkpgaaanafaaGreatK12
import Derived.Test.YtoamkpgaaanafaaGreatK13
import Derived.Test.YtoamkpgaaanafaaGreatK18
namespace Go.Proofs.YtoamkpgaaanafaaGreat
set_option linter.unusedSimpArgs false
set_option linter.unusedVariables false
set_option linter.unnecessarySimpa false
section
open Go.RowKit
structure PSrc where
 n:List Int
 w:List ByteArray
 bad:Bool
def srcC (S:PSrc):List PV := [pints S.n,pstrs S.w,pbool S.bad]
theorem low_srcC (S:PSrc):∀c∈srcC S,Low c:=by
 intro c hc
 simp only [srcC,List.mem_cons,List.not_mem_nil,or_false] at hc
 rcases hc with rfl|rfl|rfl
 ·exact (low_pints _).2 trivial
 ·exact (low_pstrs _).2 trivial
 ·exact .val _
def sG (id:Nat) (S:PSrc):List (Nat×List PV) := [(id,srcC S)]
theorem sG_lowI {T:Nat→Prop} (id:Nat) (S:PSrc):∀x∈sG id S,∀p∈x.2,LowI T p:=by
 intro x hx
 simp only [sG,List.mem_cons,List.not_mem_nil,or_false] at hx
 subst hx
 exact fun p hp=>(low_srcC S p hp).lowI
theorem s_ok {args:List PV} {r:PV} {S S2:PSrc} (ha:∀p∈args,LowI (fun i=>i∈ResIds (sG 1000001 S) []) p) (hr:Low r):HOk args (sG 1000001 S) [] r (sG 1000001 S2) []:=
 ⟨ha,sG_lowI _ S,lm_nil,hr.lowI,sG_lowI _ S2,lm_nil,by simp [sG],by simp⟩
theorem s_givB (S:PSrc):GivB (sG 1000001 S):=by unfold sG srcC;(first|assumption|(repeat (first|exact givb_nil|exact ows_nil|exact dC_owns _|exact rC_owns _|refine givb_cons ?_ ?_|refine ows_cons ?_ ?_|exact owns_no rfl|exact psecs_owns _ _|assumption)))
def SCalls (id:Nat) (f:Nat) (args:List PV) (S:PSrc) (r:PV) (S2:PSrc):Prop:=HCalls Tryz.prog f args (sG id S) [] r (sG id S2) []
theorem SCalls.at {f:Nat} {args:List PV} {S S2:PSrc} {r:PV} (h:SCalls 1000001 f (.ptr 1000001 0 :: args) S r S2) (hr:Low r) (ha:∀p∈args,Low p) (id:Nat):SCalls id f (.ptr id 0 :: args) S r S2:=by
 unfold SCalls at *
 exact HCalls.at h [(1000001,id)] (by simp) (by simp [ResIds,sG]) (by simp [sG]) (by simp) (RenL.cons (Ren.ptr _ _ (by simp [ResIds,sG])) (RenL.low ha)) (RenB.cons _ _ _ _ _ (RenL.low (low_srcC S)) RenB.nil) RenMs.nil (Ren.low _ hr) (RenB.cons _ _ _ _ _ (RenL.low (low_srcC S2)) RenB.nil) RenMs.nil
theorem s_ret {S:PSrc} {T:Tab} {rs:List ResultVar} {r:PV} {σ:PS} (h1:presult T σ rs=some r) (h3:σ.b 1000001=some (srcC S)):RetH T rs r (sG 1000001 S) [] .ret σ:=
 RetH.mk h1 (Weak.refl _) ⟨⟨_,h3,WeakL.refl _⟩,trivial⟩ trivial
def numS (S:PSrc):Int×PSrc:=if S.bad=true∨S.n.length=0 then (0,⟨S.n,S.w,true⟩) else (S.n.getD 0 default,⟨S.n.drop 1,S.w,false⟩)
def cntS (S:PSrc) (left:Int):Int×PSrc:=
 if (numS S).2.bad=true∨(numS S).1 < 0∨left < (numS S).1 then (0,⟨(numS S).2.n,(numS S).2.w,true⟩) else ((numS S).1,⟨(numS S).2.n,(numS S).2.w,false⟩)
def lstK (S:PSrc):Nat→List Int×PSrc
 |0=>([],S)
 |k+1=>((lstK S k).1 ++ [(numS (lstK S k).2).1],(numS (lstK S k).2).2)
def lstS (S:PSrc):List Int×PSrc:=lstK (cntS S S.n.length).2 (cntS S S.n.length).1.toNat
theorem numS_len (S:PSrc):(numS S).2.n.length≤S.n.length∧(numS S).2.w=S.w:=by
 unfold numS
 split
 ·exact ⟨Nat.le_refl _,rfl⟩
 ·exact ⟨by simp only [List.length_drop];omega,rfl⟩
theorem cntS_len (S:PSrc) (left:Int):(cntS S left).2.n.length≤S.n.length∧(cntS S left).2.w=S.w:=by
 have:=numS_len S
 unfold cntS
 split<;>exact this
theorem cntS_le (S:PSrc) (left:Int) (h:0≤left):0≤(cntS S left).1∧(cntS S left).1≤left:=by
 unfold cntS
 split
 ·exact ⟨Int.le_refl _,h⟩
 ·simp only;omega
theorem lstK_len (S:PSrc):∀k,(lstK S k).2.n.length≤S.n.length∧(lstK S k).2.w=S.w∧(lstK S k).1.length=k
 |0=>⟨Nat.le_refl _,rfl,rfl⟩
 |k+1=>by
  obtain ⟨h1,h2,h3⟩:=lstK_len S k
  obtain ⟨h4,h5⟩:=numS_len (lstK S k).2
  refine ⟨?_,?_,?_⟩
  ·rw [lstK];exact Nat.le_trans h4 h1
  ·rw [lstK];exact h5.trans h2
  ·rw [lstK,List.length_append,h3];rfl
theorem lstS_len (S:PSrc):(lstS S).2.n.length≤S.n.length∧(lstS S).2.w=S.w∧(lstS S).1.length≤S.n.length:=by
 obtain ⟨h1,h2,h3⟩:=lstK_len (cntS S S.n.length).2 (cntS S S.n.length).1.toNat
 obtain ⟨h4,h5⟩:=cntS_len S S.n.length
 obtain ⟨h6,h7⟩:=cntS_le S S.n.length (by omega)
 unfold lstS
 exact ⟨Nat.le_trans h1 h4,h2.trans h5,by rw [h3];omega⟩
set_option maxRecDepth 10000 in
set_option maxHeartbeats 1000000 in
theorem hc_number1 (S:PSrc) (hn:S.n.length≤1000000000000):SCalls 1000001 121 [.ptr 1000001 0] S (pint (numS S).1) (numS S).2:=by
 have hl1:Low (pints S.n):=(low_pints _).2 trivial
 have hl2:Low (pstrs S.w):=(low_pstrs _).2 trivial
 have hl3:Low (pints (S.n.drop 1)):=(low_pints _).2 trivial
 unfold SCalls
 refine hcalls_of_pw typeTab_ok Tryz.func121 rfl (by kernel_rfl) (by simp [PV.ownB]) (by rw [Tryz.ntmps121];simp) (by simp [ResIds,sG]) (by simp [ResIds,sG]) (s_ok (li_cons (.ptr _ _ (by simp [ResIds,sG])) li_nil) (.val _)) ?_ (s_givB S)
 rw [Tryz.ntmps121,Tryz.results121]
 unfold numS
 obtain ⟨n,w,bad⟩:=S
 simp only at hn hl1 hl2 hl3 ⊢
 unfold sG srcC
 simp only
 cases bad with
 |true=>
  rw [if_pos (.inl rfl)]
  refine wk ?_
  exact s_ret (S:=⟨n,w,true⟩) rfl rfl
 |false=>
  by_cases h0:n.length=0
  ·rw [if_pos (.inr h0)]
   refine wk ?_
   exact s_ret (S:=⟨n,w,true⟩) rfl rfl
  ·rw [if_neg (by simp [h0])]
   refine wk ?_
   exact s_ret (S:=⟨n.drop 1,w,false⟩) rfl rfl
theorem hc_number (id:Nat) (S:PSrc) (hn:S.n.length≤1000000000000):SCalls id 121 [.ptr id 0] S (pint (numS S).1) (numS S).2:=
 (hc_number1 S hn).at (.val _) (by simp) id
set_option maxRecDepth 10000 in
set_option maxHeartbeats 1000000 in
theorem hc_count1 (S:PSrc) (left:Int) (hn:S.n.length≤1000000000000):SCalls 1000001 123 [.ptr 1000001 0,pint left] S (pint (cntS S left).1) (cntS S left).2:=by
 have c1:=hc_number1 S hn
 have hl2:Low (pstrs S.w):=(low_pstrs _).2 trivial
 unfold SCalls at *
 refine hcalls_of_pw typeTab_ok Tryz.func123 rfl (by kernel_rfl) (by simp [pint,PV.ownB]) (by rw [Tryz.ntmps123];simp) (by simp [ResIds,sG]) (by simp [ResIds,sG]) (s_ok (li_cons (.ptr _ _ (by simp [ResIds,sG])) (li_cons (.val _) li_nil)) (.val _)) ?_ (s_givB S)
 rw [Tryz.ntmps123,Tryz.results123]
 unfold cntS
 have hl3:=low_srcC (numS S).2
 generalize numS S=r at *
 obtain ⟨x,n,w,bad⟩:=r
 simp only at c1 hl3 ⊢
 unfold sG at *
 cases bad with
 |true=>
  rw [if_pos (.inl rfl)]
  refine wk ?_
  exact s_ret (S:=⟨n,w,true⟩) rfl rfl
 |false=>
  by_cases h1:x < 0
  ·rw [if_pos (.inr (.inl h1))]
   refine wk ?_
   exact s_ret (S:=⟨n,w,true⟩) rfl rfl
  by_cases h2:left < x
  ·rw [if_pos (.inr (.inr h2))]
   refine wk ?_
   exact s_ret (S:=⟨n,w,true⟩) rfl rfl
  rw [if_neg (by simp [h1,h2])]
  refine wk ?_
  exact s_ret (S:=⟨n,w,false⟩) rfl rfl
theorem hc_count (id:Nat) (S:PSrc) (left:Int) (hn:S.n.length≤1000000000000):SCalls id 123 [.ptr id 0,pint left] S (pint (cntS S left).1) (cntS S left).2:=
 (hc_count1 S left hn).at (.val _) (by simp [low_pint]) id
set_option maxRecDepth 10000 in
set_option maxHeartbeats 1000000 in
theorem hc_list1 (S:PSrc) (hn:S.n.length≤1000000000):SCalls 1000001 122 [.ptr 1000001 0] S (pints (lstS S).1) (lstS S).2:=by
 have c1:=hc_count1 S S.n.length (by omega)
 obtain ⟨b1,b2⟩:=cntS_len S S.n.length
 obtain ⟨b3,b4⟩:=cntS_le S S.n.length (by omega)
 have hlS:=low_srcC S
 have hl3:=low_srcC (cntS S S.n.length).2
 unfold SCalls at *
 refine hcalls_of_pw typeTab_ok Tryz.func122 rfl (by kernel_rfl) (by simp [PV.ownB]) (by rw [Tryz.ntmps122];simp) (by simp [ResIds,sG]) (by simp [ResIds,sG]) (s_ok (li_cons (.ptr _ _ (by simp [ResIds,sG])) li_nil) ((low_pints _).2 trivial)) ?_ (s_givB S)
 rw [Tryz.ntmps122,Tryz.results122]
 unfold lstS
 generalize cntS S S.n.length=r at *
 obtain ⟨x,T⟩:=r
 simp only at c1 b1 b2 b3 b4 hl3 ⊢
 obtain ⟨m,rfl⟩:∃m:Nat,x=m:=⟨x.toNat,by omega⟩
 rw [Int.toNat_natCast]
 unfold sG srcC at *
 refine wk ?_
 clear c1
 refine PW.loop (fun k:Nat=>(bot.setb 1000001 (srcC (lstK T k).2) |>.put 0 (.ptr 1000001 0) |>.put 3 (if k=0 then .nilsl else .sl k 1 ((lstK T k).1.map pint) (some 3)) |>.put 10 (pint m) |>.put 11 (pint k))) (fun k=>k≤m) (fun k=>m - k) 0 (by omega) ?_ ?_
 ·exact sb
 intro k hk
 obtain ⟨d1,d2,d3⟩:=lstK_len T k
 have hlk:=low_srcC (lstK T k).2
 by_cases hlt:k < m
 ·have c2:=hc_number1 (lstK T k).2 (by omega)
  have hlk2:=low_srcC (lstK T (k+1)).2
  unfold SCalls sG at c2
  have e1:(lstK T (k+1)).1=(lstK T k).1 ++ [(numS (lstK T k).2).1]:=by rw [lstK]
  have e2:(lstK T (k+1)).2=(numS (lstK T k).2).2:=by rw [lstK]
  rw [←e2] at c2
  generalize (numS (lstK T k).2).1=y at *
  by_cases h0:k=0
  ·have hll:Low (.sl 1 1 [pint y] (some 3)):=.sl _ _ _ _ (by simp [low_pint])
   subst h0
   rw [if_pos rfl]
   refine wk ?_
   refine loopP 1 (by omega) (by omega) ?_
   simp only [Nat.zero_add] at e1
   rw [if_neg (by omega),e1,show (lstK T 0).1 = [] from rfl]
   simp only [List.nil_append,List.map_cons,List.map_nil]
   exact sb
  ·have hll:Low (.sl (k+1) 1 ((lstK T k).1.map pint ++ [pint y]) (some 3)):=.sl _ _ _ _ fun c hc=>by
    rcases List.mem_append.1 hc with h|h
    ·obtain ⟨z,-,rfl⟩:=List.mem_map.1 h;exact .val _
    ·simp only [List.mem_cons,List.not_mem_nil,or_false] at h;subst h;exact .val _
   rw [if_neg h0]
   refine wk ?_
   refine loopP (k+1) (by omega) (by omega) ?_
   rw [if_neg (by omega),e1,List.map_append]
   simp only [List.map_cons,List.map_nil]
   exact sb
 ·obtain rfl:k=m:=by omega
  by_cases h0:k=0
  ·subst h0
   rw [if_pos rfl]
   refine wk ?_
   exact RetH.mk rfl (.nil 1) ⟨⟨_,rfl,WeakL.refl _⟩,trivial⟩ trivial
  ·have e:PV.sl k 1 ((lstK T k).1.map pint) none=pints (lstK T k).1:=by unfold pints;rw [d3]
   rw [if_neg h0]
   refine wk ?_
   refine RetH.mk rfl ?_ ⟨⟨_,rfl,WeakL.refl _⟩,trivial⟩ trivial
   rw [←e]
   exact Weak.refl _
theorem hc_list (id:Nat) (S:PSrc) (hn:S.n.length≤1000000000):SCalls id 122 [.ptr id 0] S (pints (lstS S).1) (lstS S).2:=
 (hc_list1 S hn).at ((low_pints _).2 trivial) (by simp) id
end
end Go.Proofs.YtoamkpgaaanafaaGreat
