/- Out of: Oa, Ob, Oi, Om0. -/
import Derived.Test.YtmciloafahkolaaGreatDoorG24
namespace Go.Proofs.YtmciloafahkolaaGreatDoor
set_option maxRecDepth 100000
set_option maxHeartbeats 40000000
set_option linter.unusedSimpArgs false
set_option linter.unusedVariables false
set_option linter.unnecessarySimpa false
section
open Go.RowKit
def Xi6 (s:PSnd):List PV := [Xr s.l,pint s.a]
def psnd (s:PSnd):PV:=.agg (Xi6 s)
def X92 (s:PSnd) (fr:List PFrm) (e:Int):PV:=.agg [Xr s.l,pint s.a,Xp fr,pint e]
theorem Yv (s:PSnd):∀c∈Xi6 s,Low c:=by
 intro c hc
 simp only [Xi6,List.mem_cons,List.not_mem_nil,or_false] at hc
 rcases hc with rfl|rfl
 ·exact (Xb _).2 trivial
 ·exact .val _
theorem Xao (s:PSnd):Low (psnd s)↔True:=⟨fun _=>trivial,fun _=>.agg _ (Yv s)⟩
theorem X3j (s:PSnd) (e:Int):Low (.agg [Xr s.l,pint s.a, .nilsl,pint e]):=.agg _ (by
 intro c hc
 simp only [List.mem_cons,List.not_mem_nil,or_false] at hc
 rcases hc with rfl|rfl|rfl|rfl
 ·exact (Xb _).2 trivial
 ·exact .val _
 ·exact .nilsl
 ·exact .val _)
theorem X64 (s:PSnd) (e:Int):Weak (.agg [Xr s.l,pint s.a, .nilsl,pint e]) (X92 s [] e):=Weak.agg (.cons (.refl _) (.cons (.refl _) (.cons (.nil 3) (.cons (.refl _) .nil))))
structure SndS (s:PSnd):Prop where
 l:s.l.length≤1000
 a:0≤s.a∧s.a≤s.l.length
theorem Xhe (s:PSnd) (h:SndS s) (n:Int) (b:ByteArray) (hb:b.size≤1000000000):Xs Tryz.prog 13 [psnd s,pint n,pstr b] (· = X92 (s.put n b).1 [] (s.put n b).2):=by
 have hl1:=Yv s
 have hl2:Low (Xr s.l):=(Xb _).2 trivial
 have hln:=X3j
 have hwe:=X64
 obtain ⟨h1,h2,h3⟩:=h
 obtain ⟨l,a⟩:=s
 simp only at h1 h2 h3 hl1 hl2
 refine Xs.weak ?_
 refine Xd X6 Tryz.func13 rfl K_ (by simp [Xo,Xx,Y0,Xy,Xw,Xb,Xao,Y0]) (by simp [pint,Kd,pstr,Y1,Xr,Yp,PV.ownB,psnd,pstr]) (by rw [Tryz.ntmps13];simp) ?_
 rw [Tryz.ntmps13,Tryz.results13]
 unfold PSnd.put
 simp only
 by_cases c1:n < 0
 ·rw [if_pos (.inl c1)]
  refine wk ?_
  exact retP (r:=.agg [Xr l,pint a, .nilsl,pint 1]) rfl (hln ⟨l,a⟩ 1) (hwe ⟨l,a⟩ 1)
 by_cases c2:(l.length:Int) < n
 ·rw [if_pos (.inr (.inl c2))]
  refine wk ?_
  exact retP (r:=.agg [Xr l,pint a, .nilsl,pint 1]) rfl (hln ⟨l,a⟩ 1) (hwe ⟨l,a⟩ 1)
 by_cases c3:240 < b.size
 ·rw [if_pos (.inr (.inr c3))]
  refine wk ?_
  exact retP (r:=.agg [Xr l,pint a, .nilsl,pint 1]) rfl (hln ⟨l,a⟩ 1) (hwe ⟨l,a⟩ 1)
 rw [if_neg O_]
 by_cases c4:n < l.length
 ·rw [if_pos c4]
  refine wk ?_
  exact retP (r:=.agg [Xr l,pint a, .nilsl,pint 0]) rfl (hln ⟨l,a⟩ 0) (hwe ⟨l,a⟩ 0)
 rw [if_neg c4]
 by_cases c5:64≤(l.length:Int) - a
 ·rw [if_pos c5]
  refine wk ?_
  exact retP (r:=.agg [Xr l,pint a, .nilsl,pint 2]) rfl (hln ⟨l,a⟩ 2) (hwe ⟨l,a⟩ 2)
 rw [if_neg c5]
 refine wk ?_
 refine retP (r:=.agg [.sl (0+l.length+1) 1 ([] ++ l.map pstr ++ [pstr b]) none,pint a, .nilsl,pint 0]) rfl ?_ ?_
 ·have e:PV.sl (0+l.length+1) 1 ([] ++ l.map pstr ++ [pstr b]) none=Xr (l ++ [b]):=by simp [Xr]
  rw [e];exact hln ⟨l ++ [b],a⟩ 0
 ·have e:PV.sl (0+l.length+1) 1 ([] ++ l.map pstr ++ [pstr b]) none=Xr (l ++ [b]):=by simp [Xr]
  rw [e];exact hwe ⟨l ++ [b],a⟩ 0
theorem Xis (s:PSnd) (h:SndS s) (n:Int):Xs Tryz.prog 15 [psnd s,pint n] (· = X92 (s.ack n).1 [] (s.ack n).2):=by
 have hl1:=Yv s
 have hl2:Low (Xr s.l):=(Xb _).2 trivial
 have hln:=X3j
 have hwe:=X64
 obtain ⟨h1,h2,h3⟩:=h
 obtain ⟨l,a⟩:=s
 simp only at h1 h2 h3 hl1 hl2
 refine Xs.weak ?_
 refine Xd X6 Tryz.func15 rfl K_ (by simp [Xo,Xx,Y0,Xy,Xw,Xb,Xao,Y0]) (by simp [pint,Kd,pstr,Y1,Xr,Yp,PV.ownB,psnd,pstr]) (by rw [Tryz.ntmps15];simp) ?_
 rw [Tryz.ntmps15,Tryz.results15]
 unfold PSnd.ack
 simp only
 by_cases c1:n < 0
 ·rw [if_pos (.inl c1)]
  refine wk ?_
  exact retP (r:=.agg [Xr l,pint a, .nilsl,pint 1]) rfl (hln ⟨l,a⟩ 1) (hwe ⟨l,a⟩ 1)
 by_cases c2:(l.length:Int) < n
 ·rw [if_pos (.inr c2)]
  refine wk ?_
  exact retP (r:=.agg [Xr l,pint a, .nilsl,pint 1]) rfl (hln ⟨l,a⟩ 1) (hwe ⟨l,a⟩ 1)
 rw [if_neg O_]
 refine wk ?_
 exact retP (r:=.agg [Xr l,pint (maxI a n), .nilsl,pint 0]) rfl (hln ⟨l,maxI a n⟩ 0) (hwe ⟨l,maxI a n⟩ 0)
theorem Xch (a:Int) (q:List ByteArray):(X46 a q).length=q.length:=by simp [X46]
theorem Xko {a:Int} {q:List ByteArray} {k:Nat} (h:k < q.length):(X46 a q)[k]? = some ⟨false,a+k,q.getD k default⟩:=by simp [X46,h]
theorem Xuw {l:List ByteArray} {a k:Nat} : (l.drop a).getD k default=l.getD (a+k) default:=by
 rw [G_,List.getElem?_drop,G_]
theorem Xmk (s:PSnd) (F:List PFrm) (k:Nat) (h:k≤F.length) (e:Int):Weak (.agg [Xr s.l,pint s.a,(frA F k).bare,pint e]) (X92 s (F.take k) e):=by
 rcases k with _|k
 ·rw [List.take_zero];exact X64 s e
 ·have:Xp (F.take (k+1))=(frA F (k+1)).bare:=by
   unfold Xp
   rw [T_,show min (k+1) F.length=k+1 by omega];rfl
  rw [←this];exact Weak.refl _
theorem Xej (s:PSnd) (F:List PFrm) (k n:Nat) (e:Int):Low (.agg [Xr s.l,pint s.a, .sl n 3 ((F.take k).flatMap Yj) none,pint e]):=.agg _ (by
 intro c hc
 simp only [List.mem_cons,List.not_mem_nil,or_false] at hc
 rcases hc with rfl|rfl|rfl|rfl
 ·exact (Xb _).2 trivial
 ·exact .val _
 ·exact .sl _ _ _ _ (Ks _)
 ·exact .val _)
theorem X02 (s:PSnd) (h:SndS s) (most:Int) (hm:0≤most):Xs Tryz.prog 17 [psnd s,pint most] (· = X92 s (s.frames.take most.toNat) 0):=by
 have hl1:=Yv s
 have hl2:Low (Xr s.l):=(Xb _).2 trivial
 obtain ⟨h1,h2,h3⟩:=h
 obtain ⟨l,a⟩:=s
 simp only at h1 h2 h3 hl1 hl2
 obtain ⟨b,rfl⟩:∃b:Nat,a=b:=⟨a.toNat,O_⟩
 unfold PSnd.frames
 simp only [Int.toNat_natCast]
 have hlow:=Xtf (X46 b (l.drop b))
 have hfl:(X46 b (l.drop b)).length=l.length - b:=by rw [Xch,L_]
 have hfg:∀k,b+k < l.length→(X46 b (l.drop b))[k]? = some ⟨false,(b:Int)+k,l.getD (b+k) default⟩:=fun k hk=>by
  rw [Xko (by rw [L_];omega),Xuw]
 generalize X46 b (l.drop b)=F at *
 refine Xs.weak ?_
 refine Xd X6 Tryz.func17 rfl K_ (by simp [Xo,Xx,Y0,Xy,Xw,Xb,Xao,Y0]) (by simp [pint,Kd,pstr,Y1,Xr,Yp,PV.ownB,psnd,pstr]) (by rw [Tryz.ntmps17];simp) ?_
 rw [Tryz.ntmps17,Tryz.results17]
 refine wk ?_
 refine PW.loop (fun k:Nat=>(((((((bot.setb 0 [Xr l,pint b]).setb 1 [.nilsl,pint 0, .nilsl,pint 0]).setb 3002 [Xr l,pint b,frA F k,pint 0]).put 1 (pint most)).put 2 (.ptr 0 0)).put 4 (.ptr 1 0)).put 5 (.ptr 3002 0)).put 6 (pint ((b:Int)+k))) (fun k=>b+k≤l.length∧(k:Int)≤most) (fun k=>l.length - k) 0 ⟨O_,O_⟩ ?_ ?_
 ·rw [show (b:Int)+((0:Nat):Int)=b from Int.add_zero _]
  exact sb
 ·rintro k ⟨hk1,hk2⟩
  have hk3:(b:Int)+(k:Int)=((b+k:Nat):Int):=O_
  by_cases hlt:b+k < l.length
  ·by_cases hlm:(k:Int) < most
   ·have hg:=hfg k hlt
    have e6:=Xn8 hg
    have q1:=hlow (k+1)
    rw [e6] at q1
    clear hfg
    rw [hk3] at e6 q1 ⊢
    rcases k with _|k
    ·refine wk ?_
     refine Y4 1 ⟨O_,O_⟩ O_ ?_
     try dsimp only
     rw [e6,show (b:Int)+((0+1:Nat):Int)=((b+0:Nat):Int)+1 by omega]
     exact sb
    ·refine wk ?_
     refine Y4 (k+2) ⟨O_,O_⟩ O_ ?_
     try dsimp only
     rw [e6,show (b:Int)+((k+1+1:Nat):Int)=((b+(k+1):Nat):Int)+1 by omega]
     exact sb
   ·have hke:F.take most.toNat=F.take k:=by rw [show most.toNat=k by omega]
    rw [hke]
    have hw:=Xmk ⟨l,b⟩ F k O_ 0
    clear hfg hke
    rw [hk3]
    rcases k with _|k
    ·refine wk ?_
     exact retP (r:=.agg [Xr l,pint b, .nilsl,pint 0]) rfl (X3j ⟨l,b⟩ 0) hw
    ·refine wk ?_
     exact retP (r:=.agg [Xr l,pint b, .sl (k+1) 3 ((F.take (k+1)).flatMap Yj) none,pint 0]) rfl (Xej ⟨l,b⟩ F (k+1) (k+1) 0) hw
  ·have hke:F.take most.toNat=F.take k:=by rw [H_ O_,H_ O_]
   rw [hke]
   have hw:=Xmk ⟨l,b⟩ F k O_ 0
   clear hfg hke
   rw [hk3]
   rcases k with _|k
   ·refine wk ?_
    exact retP (r:=.agg [Xr l,pint b, .nilsl,pint 0]) rfl (X3j ⟨l,b⟩ 0) hw
   ·refine wk ?_
    exact retP (r:=.agg [Xr l,pint b, .sl (k+1) 3 ((F.take (k+1)).flatMap Yj) none,pint 0]) rfl (Xej ⟨l,b⟩ F (k+1) (k+1) 0) hw
theorem SndT.S {s:PSnd} {a:Nat} {Q:List Body} (h:SndT s a Q) (hl:s.l.length≤1000):SndS s:=⟨hl,by rw [h.ea,h.el];omega⟩
theorem Xs7 (s:PSnd) (n:Int) (b:ByteArray):(s.put n b).1.l.length≤s.l.length+1:=by
 unfold PSnd.put
 split
 ·simp
 split
 ·simp
 split
 ·simp
 ·simp
theorem Xr6 (s:PSnd) (n:Int):(s.ack n).1.l.length=s.l.length:=by
 unfold PSnd.ack
 split<;>rfl
end
end Go.Proofs.YtmciloafahkolaaGreatDoor
