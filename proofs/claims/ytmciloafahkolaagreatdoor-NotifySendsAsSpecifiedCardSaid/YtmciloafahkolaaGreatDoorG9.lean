/- Out of: Ha, Hb, Hc, Hd, Ke. -/
import Derived.Test.YtmciloafahkolaaGreatDoorG5
namespace Go.Proofs.YtmciloafahkolaaGreatDoor
set_option maxRecDepth 100000
set_option maxHeartbeats 40000000
set_option linter.unusedSimpArgs false
set_option linter.unusedVariables false
set_option linter.unnecessarySimpa false
section
open Go.RowKit
def addU (a b:Int):Int:=IntKind.u32.wrap (a+b)
def xorU (a b:Int):Int:=IntKind.u32.wrap (BitVec.ofInt IntKind.u32.bits a ^^^ BitVec.ofInt IntKind.u32.bits b).toNat
def andU (a b:Int):Int:=IntKind.u32.wrap (BitVec.ofInt IntKind.u32.bits a &&& BitVec.ofInt IntKind.u32.bits b).toNat
def orU (a b:Int):Int:=IntKind.u32.wrap (BitVec.ofInt IntKind.u32.bits a ||| BitVec.ofInt IntKind.u32.bits b).toNat
def shlU (a:Int) (n:Nat):Int:=IntKind.u32.wrap (a * 2 ^ n)
def shrU (a:Int) (n:Nat):Int:=a.fdiv (2 ^ n)
def notU (a:Int):Int:=IntKind.u32.wrap (BitVec.ofInt IntKind.u32.bits 4294967295 ^^^ BitVec.ofInt IntKind.u32.bits a).toNat
def rotI (x:Int) (r:Nat):Int:=orU (shlU x (32 - r)) (shrU x r)
theorem X3a (x:Int) (r:Nat) (hr:r ∈ [2,6,7,11,13,17,18,19,22,25]):Xs Tryz.prog 135 [pu32 x,pint (-(r:Int))] (· = pu32 (rotI x r)):=by
 refine Xd X6 Tryz.func135 rfl K_ (by exact lw) (by simp [pu32,pint,PV.ownB]) N_ ?_
 simp only [List.mem_cons,List.not_mem_nil,or_false] at hr
 rcases hr with rfl|rfl|rfl|rfl|rfl|rfl|rfl|rfl|rfl|rfl
 all_goals
  refine wk ?_
  refine retP rfl (by exact lw) rfl
def mixI (x:Int) (i j k:Nat):Int:=xorU (xorU (rotI x i) (rotI x j)) (rotI x k)
theorem Y18 (x:Int):Xs Tryz.prog 134 [pu32 x,pint 6,pint 11,pint 25] (· = pu32 (mixI x 6 11 25)):=by
 refine Xd X6 Tryz.func134 rfl K_ (by exact lw) (by simp [pu32,pint,PV.ownB]) N_ ?_
 have r1:=X3a x 6 S_
 have r2:=X3a x 11 S_
 have r3:=X3a x 25 S_
 refine wk ?_
 refine retP rfl (by exact lw) rfl
theorem Y1k (x:Int):Xs Tryz.prog 134 [pu32 x,pint 2,pint 13,pint 22] (· = pu32 (mixI x 2 13 22)):=by
 refine Xd X6 Tryz.func134 rfl K_ (by exact lw) (by simp [pu32,pint,PV.ownB]) N_ ?_
 have r1:=X3a x 2 S_
 have r2:=X3a x 13 S_
 have r3:=X3a x 22 S_
 refine wk ?_
 refine retP rfl (by exact lw) rfl
def beI (l:List Int):Int:=l.foldl (fun a x=>orU (shlU a 8) (IntKind.u32.wrap x)) 0
def sigI (x:Int) (i j k:Nat):Int:=xorU (xorU (rotI x i) (rotI x j)) (shrU x k)
def schV (W:List Int) (t:Nat):Int:=addU (addU (addU (W.getD (t - 16) 0) (sigI (W.getD (t - 15) 0) 7 18 3)) (W.getD (t - 7) 0)) (sigI (W.getD (t - 2) 0) 17 19 10)
def schW (b:List Int):Nat→List Int
 |0=>List.replicate 64 0
 |t+1=>(schW b t).set t (if t < 16 then beI ((b.drop (4 * t)).take 4) else schV (schW b t) t)
theorem Xh0 (b:List Int):∀t,(schW b t).length=64
 |0=>by simp [schW]
 |t+1=>by rw [schW,List.length_set,Xh0 b t]
def schI (W C:List Int) (t j:Nat):List Int:=W.set t (beI (C.take j))
theorem Xsw {l:List Int} {t:Nat} {x d:Int} (h:t < l.length):(l.set t x).getD t d=x:=by
 rw [G_,List.getElem?_set_self h];rfl
theorem Xyf {C:List Int} {j:Nat} (h:j < C.length):beI (C.take (j+1))=orU (shlU (beI (C.take j)) 8) (IntKind.u32.wrap (C.getD j default)):=by
 rw [Vj default h,beI,List.foldl_append];rfl
theorem Xsr {W C:List Int} {t j:Nat} (ht:t < W.length) (h:j < C.length):schI W C t (j+1)=(schI W C t j).set t (orU (shlU ((schI W C t j).getD t default) 8) (IntKind.u32.wrap (C.getD j default))):=by
 rw [schI,schI,Xsw ht,List.set_set,Xyf h]
theorem Xsi {W:List Int} (C:List Int) {t:Nat} (h:W[t]? = some 0):W=schI W C t 0:=by
 rw [schI,List.take_zero]
 show W=W.set t 0
 apply List.ext_getElem?
 intro i
 rw [List.getElem?_set]
 split
 ·subst i;rw [h];have:=(List.getElem?_eq_some_iff.1 h).1;simp [this]
 ·rfl
theorem Xip (b:List Int):∀t k,t≤k→k < 64→(schW b t)[k]? = some 0
 |0,k,_,h=>by rw [schW,List.getElem?_replicate];simp [h]
 |t+1,k,h1,h2=>by rw [schW,List.getElem?_set,if_neg O_];exact Xip b t k O_ h2
theorem Xl3 (b:List Int) (hb:b.length=64):Xs Tryz.prog 133 [Yp b] (· = .agg ((schW b 64).map pu32)):=by
 refine Xd X6 Tryz.func133 rfl K_ (by exact lw) (by simp [Yp,PV.ownB]) N_ ?_
 refine wk ?_
 refine PW.loop (fun t:Nat=>(((((bot.setb 0 (List.replicate 64 (pu32 0))).put 2 (.ptr 0 0)).setb 1000 ((schW b t).map pu32)).put 3 (.ptr 1000 0)).put 0 (Yp b)).put 11 (pint t)) (fun t=>t≤64) (fun t=>64 - t) 0 O_ ?_ ?_
 ·exact sb
 ·intro t ht
  have hl:=Xh0 b t
  by_cases h64:t < 64
  ·by_cases h16:t < 16
   ·obtain ⟨C,hC⟩:∃C,C=(b.drop (4 * t)).take 4:=⟨_,rfl⟩
    have hCl:C.length=4:=by rw [hC,T_,L_];omega
    refine wk ?_
    rw [show List.take ((4 * (t:Int)+4).toNat - (4 * (t:Int)).toNat) (List.drop (4 * (t:Int)).toNat b)=C by
     rw [hC];congr 1<;>omega]
    have h0:(schI (schW b t) C t 0).map pu32=(schW b t).map pu32:=by rw [←Xsi C (Xip b t t (Nat.le_refl _) h64)]
    refine PW.loop (fun j:Nat=>((((((((bot.setb 0 (List.replicate 64 (pu32 0))).put 2 (.ptr 0 0)).setb 1000 ((schI (schW b t) C t j).map pu32)).put 3 (.ptr 1000 0)).put 0 (Yp b)).put 11 (pint t)).put 4 (pint t)).put 22 (Yp C)).put 23 (pint C.length) |>.put 24 (pint j)) (fun j=>j≤4) (fun j=>4 - j) 0 O_ ?_ ?_
    ·exact sb
    ·intro j hj
     have hl2:(schI (schW b t) C t j).length=64:=by rw [schI,List.length_set,hl]
     by_cases h4:j < 4
     ·have hS:(schI (schW b t) C t (j+1)).map pu32=((schI (schW b t) C t j).set t (orU (shlU ((schI (schW b t) C t j).getD t default) 8) (IntKind.u32.wrap (C.getD j default)))).map pu32:=by rw [Xsr O_ O_]
      refine wk ?_
      refine Y4 (j+1) O_ O_ ?_
      exact sb
     ·have e:j=4:=O_
      subst e
      have hS:(schW b (t+1)).map pu32=(schI (schW b t) C t 4).map pu32:=by
       rw [schW,if_pos h16,schI,←hC,H_ O_]
      generalize schI (schW b t) C t 4=W4 at *
      refine wk ?_
      refine Y4 (t+1) O_ O_ ?_
      exact sb
   ·have r1:=X3a ((schW b t).getD ((t:Int) - 15).toNat default) 7 S_
    have r2:=X3a ((schW b t).getD ((t:Int) - 15).toNat default) 18 S_
    have r3:=X3a ((schW b t).getD ((t:Int) - 2).toNat default) 17 S_
    have r4:=X3a ((schW b t).getD ((t:Int) - 2).toNat default) 19 S_
    have hS:(schW b (t+1)).map pu32=((schW b t).set (t:Int).toNat (addU (addU (addU ((schW b t).getD ((t:Int) - 16).toNat default) (sigI ((schW b t).getD ((t:Int) - 15).toNat default) 7 18 3)) ((schW b t).getD ((t:Int) - 7).toNat default)) (sigI ((schW b t).getD ((t:Int) - 2).toNat default) 17 19 10))).map pu32:=by
     rw [schW,if_neg h16,schV,show ((t:Int) - 16).toNat=t - 16 by omega,show ((t:Int) - 15).toNat=t - 15 by omega,show ((t:Int) - 7).toNat=t - 7 by omega,show ((t:Int) - 2).toNat=t - 2 by omega];rfl
    refine wk ?_
    refine Y4 (t+1) O_ O_ ?_
    exact sb
  ·have e:t=64:=O_
   subst e
   generalize schW b 64=W at *
   refine wk ?_
   exact ⟨_,Vb (Yq rfl rfl rfl (Yd hl) (Yx (fun _=>rfl) _)),by exact lw,rfl⟩
structure H8 where
 (a b c d e f g h:Int)
def pH (s:H8):List PV := [pu32 s.a,pu32 s.b,pu32 s.c,pu32 s.d,pu32 s.e,pu32 s.f,pu32 s.g,pu32 s.h]
theorem Xuf (s:H8):∀c∈pH s,Low c:=by intro c hc;simp [pH] at hc;rcases hc with rfl|rfl|rfl|rfl|rfl|rfl|rfl|rfl<;>exact .val _
def rndX (v:H8) (k w:Int):Int:=addU (addU (addU (addU v.h (mixI v.e 6 11 25)) (xorU (andU v.e v.f) (andU (notU v.e) v.g))) k) w
def rndY (v:H8):Int:=addU (mixI v.a 2 13 22) (xorU (xorU (andU v.a v.b) (andU v.a v.c)) (andU v.b v.c))
def rnd (v:H8) (k w:Int):H8:=⟨addU (rndX v k w) (rndY v),v.a,v.b,v.c,addU v.d (rndX v k w),v.e,v.f,v.g⟩
def rnds (ks ws:List Int) (v:H8):Nat→H8
 |0=>v
 |t+1=>rnd (rnds ks ws v t) (ks.getD t default) (ws.getD t default)
def addH (s v:H8):H8:=⟨addU s.a v.a,addU s.b v.b,addU s.c v.c,addU s.d v.d,addU s.e v.e,addU s.f v.f,addU s.g v.g,addU s.h v.h⟩
def cmpH (ks:List Int) (s:H8) (b:List Int):H8:=addH s (rnds ks (schW b 64) s 64)
theorem Xlx (s:H8) (b:List Int) (hb:b.length=64):Xs Tryz.prog 130 [.agg (pH s),Yp b] (· = .agg (pH (cmpH Yy s b))):=by
 refine Xd X6 Tryz.func130 rfl K_ (by intro p hp;simp at hp;rcases hp with rfl|rfl;exact .agg _ (Xuf s);exact lw) (by simp [Yp,PV.ownB]) N_ ?_
 have hs:=Xl3 b hb
 have hg:Yy.length=64:=rfl
 have hwl:=Xh0 b 64
 obtain ⟨W,hW⟩:∃W,W=schW b 64:=⟨_,rfl⟩
 rw [←hW] at hs hwl
 rw [show cmpH Yy s b=addH s (rnds Yy W s 64) by rw [cmpH,hW]]
 obtain ⟨G,hG⟩:∃G,G=Yy:=⟨_,rfl⟩
 refine wk ?_
 refine PW.loop (fun t:Nat=>(((((((((((bot.setb 0 (pH s)).put 2 (.ptr 0 0)).setb 1 (List.replicate 8 (pu32 0))).put 4 (.ptr 1 0)).setb 1002 (W.map pu32)).put 5 (.ptr 1002 0)).setb 2006 [pu32 (rnds Yy W s t).a,pu32 (rnds Yy W s t).b,pu32 (rnds Yy W s t).c,pu32 (rnds Yy W s t).d]).setb 2007 [pu32 (rnds Yy W s t).e,pu32 (rnds Yy W s t).f,pu32 (rnds Yy W s t).g,pu32 (rnds Yy W s t).h]).put 6 (.ptr 2006 0)).put 7 (.ptr 2007 0)).put 21 (.agg (Yy.map pu32))).put 22 (pint t)) (fun t=>t≤64) (fun t=>64 - t) 0 O_ ?_ ?_
 ·exact sb
 ·intro t ht
  by_cases h64:t < 64
  ·obtain ⟨v,hv⟩:∃v,v=rnds Yy W s t:=⟨_,rfl⟩
   have hn:rnds Yy W s (t+1)=rnd v (Yy.getD t default) (W.getD t default):=by rw [rnds,hv]
   rw [←hv]
   have m1:=Y18 v.e
   have m2:=Y1k v.a
   refine wk ?_
   refine Y4 (t+1) O_ O_ ?_
   simp only [hn]
   exact sb
  ·have e:t=64:=O_
   subst e
   generalize rnds Yy W s 64=v at *
   refine wk ?_
   refine PW.unroll ?_
   refine wk ?_
   refine Xzg ?_
   refine wk ?_
   refine Xzg ?_
   refine wk ?_
   refine Xzg ?_
   refine wk ?_
   refine Xzg ?_
   refine wk ?_
   refine ⟨_,Vb (Yq rfl rfl rfl rfl rfl), .agg _ ?_,?_⟩
   ·exact Xuf (addH s v)
   ·rfl
structure Strm where
 st:H8
 blk:List Int
 n:Nat
def pS (s:Strm):List PV:=pH s.st ++ (s.blk.map Xh ++ [pu64 s.n])
theorem X2m (s:Strm):∀c∈pS s,Low c:=by
 intro c hc
 rcases List.mem_append.1 hc with h|h
 ·exact Xuf _ c h
 ·rcases List.mem_append.1 h with h|h
  ·exact Kx (fun _=>Low.val _) _ c h
  ·simp at h;subst h;exact .val _
theorem X29 (s:Strm):(pS s).map PV.bare=pS s:=by
 have:(s.blk.map Xh).map PV.bare=s.blk.map Xh:=Yx (fun _=>rfl) _
 rw [pS,List.map_append,List.map_append,this];rfl
theorem Xex (s:Strm):(pS s).all PV.one=true:=by
 have:(s.blk.map Xh).all PV.one=true:=X8x (fun _=>rfl) _
 rw [pS,List.all_append,List.all_append,this];rfl
theorem X1p {s:Strm} (h:s.blk.length=64):(pS s).length=73:=by simp [pS,pH,h]
def splI (l:List Int) (at_:Nat) (x:List Int):List Int:=l.take at_ ++ x ++ l.drop (at_+x.length)
def Strm.put (s:Strm) (x:List Int):Strm:=⟨s.st,splI s.blk (s.n % 64) x,s.n+x.length⟩
def Strm.full (s:Strm) (ks:List Int):Strm:=⟨cmpH ks s.st s.blk,s.blk,s.n⟩
def Strm.turn (ks:List Int) (s:Strm) (x:List Int):Strm:=if s.n % 64+x.length=64 then (s.put x).full ks else s.put x
def addS (ks:List Int) (s:Strm) (bs:List Int):Strm:=
 if h:bs = [] then s else addS ks (s.turn ks (bs.take (64 - s.n % 64))) (bs.drop (64 - s.n % 64))
termination_by bs.length
decreasing_by
 rw [L_]
 have:bs.length≠0:=fun e=>h (List.eq_nil_of_length_eq_zero e)
 have:=Nat.mod_lt s.n (show 0 < 64 by omega)
 omega
theorem Xfy (ks:List Int) (s:Strm):addS ks s []=s:=by rw [addS];simp
theorem X8i (ks:List Int) (s:Strm) {bs:List Int} (h:bs ≠ []):addS ks s bs=addS ks (s.turn ks (bs.take (64 - s.n % 64))) (bs.drop (64 - s.n % 64)):=by rw [addS,dif_neg h]
theorem Xo0 {l x:List Int} {a:Nat} (h:a+x.length≤l.length):(splI l a x).length=l.length:=by
 simp only [splI,A_,T_,L_];omega
theorem Xxt (ks:List Int) (s:Strm) (x:List Int):(s.turn ks x).blk=splI s.blk (s.n % 64) x:=by
 unfold Strm.turn;split<;>rfl
theorem Y6o (ks:List Int) (s:Strm) (x:List Int):(s.turn ks x).n=s.n+x.length:=by
 unfold Strm.turn;split<;>rfl
theorem Y4t (s:H8):∀c∈pH s,Flat c:=by intro c hc;simp [pH] at hc;rcases hc with rfl|rfl|rfl|rfl|rfl|rfl|rfl|rfl<;>exact .val _
theorem pS_n {s:Strm} (h:s.blk.length=64):(pS s)[72]? = some (pu64 s.n):=by
 rw [pS,List.getElem?_append_right (by simp [pH]),List.getElem?_append_right (by simp [pH,h])]
 simp [pH,h]
theorem Y1f {s:Strm} (h:s.blk.length=64) (m:Nat):Y5 (pS s) (0+72) [pu64 m]=pS ⟨s.st,s.blk,m⟩:=by
 have h1:(pS s).take 72=pH s.st ++ s.blk.map Xh:=by
  rw [pS,←List.append_assoc,List.take_left' (by simp [pH,h])]
 have h2:(pS s).drop 73 = []:=List.drop_eq_nil_of_le (by rw [X1p h];omega)
 show (pS s).take 72 ++ [pu64 m] ++ (pS s).drop 73=_
 rw [h1,h2,List.append_nil,pS,List.append_assoc]
theorem Y1w {s:Strm} (v:H8):Y5 (pS s) 0 (pH v)=pS ⟨v,s.blk,s.n⟩:=by
 show (pS s).take 0 ++ pH v ++ (pS s).drop 8=_
 rfl
theorem Y1q {s:Strm} (h:s.blk.length=64) {a:Nat} {X:List Int} (hx:a+X.length≤64):Y5 (pS s) (8+a) (X.map Xh)=pS ⟨s.st,splI s.blk a X,s.n⟩:=by
 have hp:(pH s.st).length=8:=rfl
 unfold Y5
 have h1:(pS s).take (8+a)=pH s.st ++ (s.blk.take a).map Xh:=by
  rw [pS,←hp,List.take_append,List.take_append_of_le_length (by simp;omega),H_ O_,Nat.add_sub_cancel_left,List.map_take]
 have h2:(pS s).drop (8+a+(X.map Xh).length)=(s.blk.drop (a+X.length)).map Xh ++ [pu64 s.n]:=by
  rw [pS,List.length_map,Nat.add_assoc,←hp,List.drop_append,List.drop_append_of_le_length (by simp;omega),List.drop_eq_nil_of_le O_,Nat.add_sub_cancel_left,List.nil_append,List.map_drop]
 rw [h1,h2,pS,splI]
 simp
theorem Xlm {M:List Int} (h:∀c∈M,0≤c∧c < 256):(Zl M).data.toList.map (fun x=>PV.val (.int .u8 (x.toNat:Int)))=M.map Xh:=by
 have h1:=X30 M h
 conv=>rhs;rw [←h1]
 rw [X0k,List.map_map];rfl
theorem Xnh {a b:ByteArray} : (a.toList == b.toList)=true↔a=b:=by
 rw [ByteArray.toList_eq,ByteArray.toList_eq,beq_iff_eq]
 exact ⟨fun h=>Y08 h,fun h=>h ▸ rfl⟩
theorem Xei {a b:ByteArray} (h:a≠b):(a.toList == b.toList)=false:=by
 cases hh:(a.toList == b.toList) with
 |false=>rfl
 |true=>exact absurd (Xnh.1 hh) h
def Xxv:Strm:=⟨⟨0,0,0,0,0,0,0,0⟩,List.replicate 64 0,0⟩
theorem Xow {bs:List Int} (h:∀c∈bs,0≤c∧c < 256) (k:Nat):(Zl bs).extract k (Zl bs).size=Zl (bs.drop k):=by
 apply ByteArray.ext
 apply Array.ext'
 rw [X3w,ByteArray.data_extract,Array.toList_extract,X3w,X0a,List.extract_eq_take_drop,List.map_drop,H_ S_]
theorem Xvc (s:Strm) (bs:List Int) (hs:s.blk.length=64) (hb:∀c∈bs,0≤c∧c < 256) (hn:s.n+bs.length≤1000000000000000):Xs Tryz.prog 121 [.agg (pS s),pstr (Zl bs)] (· = .agg (pS (addS Yy s bs))):=by
 refine Xd X6 Tryz.func121 rfl K_ (by intro p hp;simp at hp;rcases hp with rfl|rfl;exact .agg _ (X2m s);exact lw) (by simp [pstr,PV.ownB]) N_ ?_
 refine wk ?_
 refine X5.boxA rfl rfl rfl rfl rfl (Xex s) (X29 s) ?_
 refine wk ?_
 refine PW.loop (fun x:Strm×List Int=>((((bot.setb 0 (pS x.1)).put 2 (.ptr 0 0)).setb 1 (pS Xxv)).put 4 (.ptr 1 0)).put 1 (pstr (Zl x.2))) (fun x=>x.1.blk.length=64∧(∀c∈x.2,0≤c∧c < 256)∧x.1.n+x.2.length≤1000000000000000∧addS Yy x.1 x.2=addS Yy s bs) (fun x=>x.2.length) (s,bs) ⟨hs,hb,hn,rfl⟩ ?_ ?_
 ·dsimp only
  have l1:=X2m s
  have l2:=X2m Xxv
  exact sb
 ·rintro ⟨u,M⟩ ⟨hu,hM,hun,he⟩
  simp only at hu hM hun he
  simp only
  have hlt:=Nat.mod_lt u.n (show 0 < 64 by omega)
  by_cases h0:M = []
  ·have hne:(!((Zl M).toList == ByteArray.empty.toList))=false:=by subst h0;rw [show Zl []=ByteArray.empty from rfl];simp
   refine wk ?_
   refine X5.ldAll rfl rfl rfl rfl rfl rfl rfl (X1p hu) (X29 u) ?_
   refine X5.stAll rfl rfl rfl rfl rfl rfl rfl rfl rfl (X1p hu) (X1p (s:=Xxv) rfl) (Xex u) (X29 u) ?_
   refine wk ?_
   refine ⟨_,Vb (Yq rfl rfl rfl (X1p hu) (X29 u)), .agg _ (X2m u),?_⟩
   rw [←he,h0,Xfy]
  ·have hne:(!((Zl M).toList == ByteArray.empty.toList))=true:=by
    have h1:Zl M≠ByteArray.empty:=by
     intro h;apply h0
     have h2:(Zl M).size=0:=by rw [h];rfl
     rw [X0a] at h2;exact List.eq_nil_of_length_eq_zero h2
    rw [Xei h1];rfl
   have hnn:(pS u)[72]? = some (pu64 u.n):=by
    rw [pS,List.getElem?_append_right (by simp [pH]),List.getElem?_append_right (by simp [pH,hu])]
    simp [pH,hu]
   refine wk ?_
   refine X5.ldB rfl rfl rfl rfl rfl rfl rfl rfl hnn rfl ?_
   refine X5.remU (b:=64) rfl rfl rfl rfl rfl rfl rfl rfl D_ ?_
   refine X5.valE (q:=pint ((u.n % 64:Nat):Int)) rfl rfl rfl (by show PV.val (.int .i64 (IntKind.i64.wrap _))=PV.val _;try rw [Zp O_ O_]) rfl ?_
   refine wk ?_
   refine X5.slcP (h:=64) (l:=u.n % 64) rfl rfl rfl rfl rfl rfl rfl rfl (by simp [Yf,pev,PS.put,upd,PV.bare];omega) D_ ?_
   refine wk ?_
   have hX:(M.take (64 - u.n % 64)).length=min M.length (64 - u.n % 64):=by rw [T_];omega
   have hbl:(splI u.blk (u.n % 64) (M.take (64 - u.n % 64))).length=64:=by rw [Xo0 (by rw [hX,hu];omega),hu]
   have hM0:M.length≠0:=fun e=>h0 (List.eq_nil_of_length_eq_zero e)
   refine X5.copy (out:=pS ⟨u.st,splI u.blk (u.n % 64) (M.take (64 - u.n % 64)),u.n⟩) (n2:=M.length) (cs:=M.map Xh) rfl rfl rfl rfl rfl (by show (some ((Zl M).size,(Zl M).data.toList.map (fun x=>PV.val (.int .u8 (x.toNat:Int)))):Option _)=_;rw [Xlm hM,X0a]) rfl rfl rfl ?_ ?_ ?_ ?_
   ·rw [X1p hu];omega
   ·rw [List.length_map];omega
   ·rw [←Y1q hu (by rw [hX];omega),Nat.zero_add,Nat.mul_one,Nat.mul_one,←List.map_take]
    congr 2
    exact List.take_eq_take_iff.2 O_
   refine wk ?_
   refine X5.slcS (k:=min M.length (64 - u.n % 64)) (q:=Zl (M.drop (64 - u.n % 64))) rfl rfl rfl rfl rfl rfl rfl rfl rfl (by rw [X0a];omega) ?_ ?_
   ·rw [Xow hM]
    congr 1
    by_cases hh:M.length≤64 - u.n % 64
    ·rw [Nat.min_eq_left hh,List.drop_eq_nil_of_le (Nat.le_refl _),List.drop_eq_nil_of_le hh]
    ·rw [Nat.min_eq_right O_]
   refine wk ?_
   refine X5.ldB rfl rfl rfl rfl rfl rfl rfl rfl (pS_n hbl) rfl ?_
   refine X5.idd ?_
   first|(refine X5.cvI rfl rfl rfl rfl ?_ ?_ rfl ?_;(first|omega|(dsimp only;omega));(first|omega|(dsimp only;omega)))|refine X5.stepA rfl ?_|refine X5.doneI rfl ?_|(refine X5.boolK true rfl rfl rfl rfl ?_ rfl ?_;(first|rfl|assumption|(simp only [decide_eq_true_eq,decide_eq_false_iff_not,bne_iff_ne,beq_iff_eq,beq_eq_false_iff_ne,bne_eq_false_iff_eq,ne_eq];omega)))|(refine X5.boolK false rfl rfl rfl rfl ?_ rfl ?_;(first|rfl|assumption|(simp only [decide_eq_true_eq,decide_eq_false_iff_not,bne_iff_ne,beq_iff_eq,beq_eq_false_iff_ne,bne_eq_false_iff_eq,ne_eq];omega)))|(refine X5.fitsK rfl rfl rfl rfl ?_ ?_ rfl ?_;(first|omega|(dsimp only;omega));(first|omega|(dsimp only;omega)))|(refine X5.remK rfl rfl rfl rfl ?_ rfl ?_;(first|omega|(dsimp only;omega)))|(refine X5.quoK rfl rfl rfl rfl ?_ rfl ?_;(first|omega|(dsimp only;omega)))|(refine X5.app rfl rfl rfl rfl rfl rfl rfl rfl ?_ ?_ ?_ ?_;(first|omega|(dsimp only;omega));(first|omega|(dsimp only;omega));first|rfl|exact Ko _|exact X0l _|exact X35 _|exact X2w _|exact X0g _|exact X05 _)|(refine X5.app0 rfl rfl rfl rfl rfl rfl rfl rfl ?_ ?_ ?_ ?_;(first|omega|(dsimp only;omega));(first|omega|(dsimp only;omega));first|rfl|exact Ko _|exact X0l _|exact X35 _|exact X2w _|exact X0g _|exact X05 _)|(refine X5.idx1 rfl rfl rfl rfl rfl rfl rfl rfl ?_ ?_;(first|omega|(dsimp only;omega)))|(refine X5.idx rfl rfl rfl rfl rfl rfl rfl rfl ?_ ?_;(first|omega|(dsimp only;omega)))|refine X5.ld rfl rfl rfl rfl rfl rfl rfl (by assumption) rfl ?_|refine X5.ldA rfl rfl rfl rfl rfl rfl (by (first|omega|(dsimp only;omega))) (by assumption) ?_|refine X5.str rfl rfl rfl rfl rfl rfl rfl rfl rfl rfl rfl ?_
   first|(refine X5.cvI rfl rfl rfl rfl ?_ ?_ rfl ?_;(first|omega|(dsimp only;omega));(first|omega|(dsimp only;omega)))|refine X5.stepA rfl ?_|refine X5.doneI rfl ?_|(refine X5.boolK true rfl rfl rfl rfl ?_ rfl ?_;(first|rfl|assumption|(simp only [decide_eq_true_eq,decide_eq_false_iff_not,bne_iff_ne,beq_iff_eq,beq_eq_false_iff_ne,bne_eq_false_iff_eq,ne_eq];omega)))|(refine X5.boolK false rfl rfl rfl rfl ?_ rfl ?_;(first|rfl|assumption|(simp only [decide_eq_true_eq,decide_eq_false_iff_not,bne_iff_ne,beq_iff_eq,beq_eq_false_iff_ne,bne_eq_false_iff_eq,ne_eq];omega)))|(refine X5.fitsK rfl rfl rfl rfl ?_ ?_ rfl ?_;(first|omega|(dsimp only;omega));(first|omega|(dsimp only;omega)))|(refine X5.remK rfl rfl rfl rfl ?_ rfl ?_;(first|omega|(dsimp only;omega)))|(refine X5.quoK rfl rfl rfl rfl ?_ rfl ?_;(first|omega|(dsimp only;omega)))|(refine X5.app rfl rfl rfl rfl rfl rfl rfl rfl ?_ ?_ ?_ ?_;(first|omega|(dsimp only;omega));(first|omega|(dsimp only;omega));first|rfl|exact Ko _|exact X0l _|exact X35 _|exact X2w _|exact X0g _|exact X05 _)|(refine X5.app0 rfl rfl rfl rfl rfl rfl rfl rfl ?_ ?_ ?_ ?_;(first|omega|(dsimp only;omega));(first|omega|(dsimp only;omega));first|rfl|exact Ko _|exact X0l _|exact X35 _|exact X2w _|exact X0g _|exact X05 _)|(refine X5.idx1 rfl rfl rfl rfl rfl rfl rfl rfl ?_ ?_;(first|omega|(dsimp only;omega)))|(refine X5.idx rfl rfl rfl rfl rfl rfl rfl rfl ?_ ?_;(first|omega|(dsimp only;omega)))|refine X5.ld rfl rfl rfl rfl rfl rfl rfl (by assumption) rfl ?_|refine X5.ldA rfl rfl rfl rfl rfl rfl (by (first|omega|(dsimp only;omega))) (by assumption) ?_|refine X5.str rfl rfl rfl rfl rfl rfl rfl rfl rfl rfl rfl ?_
   refine X5.valE (q:=pu64 ((u.n+min M.length (64 - u.n % 64):Nat):Int)) rfl rfl rfl (by show PV.val (.int .u64 (IntKind.u64.wrap ((u.n:Int)+IntKind.u64.wrap _)))=PV.val _;rw [IntWalk.u64_in ((min M.length (64 - u.n % 64):Nat):Int) O_,IntWalk.u64_in _ O_];congr 2) rfl ?_
   refine wk ?_
   refine X5.stB (new := [pu64 ((u.n+min M.length (64 - u.n % 64):Nat):Int)]) rfl rfl rfl rfl rfl rfl rfl rfl rfl ⟨rfl,by rw [X1p hbl];show 0+72+1≤73;omega⟩ (Y1f hbl _) ?_
   have hdl:(M.drop (64 - u.n % 64)).length=M.length - (64 - u.n % 64):=L_
   have l2:=X2m Xxv
   by_cases hful:u.n % 64+min M.length (64 - u.n % 64)=64
   ·have hc:=Xe.ofP (gm := []) (given := [(0,pS ⟨u.st,splI u.blk (u.n % 64) (M.take (64 - u.n % 64)),u.n+min M.length (64 - u.n % 64)⟩)]) (args' := [.agg (pH u.st), .msl 0 (0+8+0 * 1) (64 - 0) 1]) (Xlx u.st (splI u.blk (u.n % 64) (M.take (64 - u.n % 64))) hbl)
     (.cons (.same _) (by
      have e:Yp (splI u.blk (u.n % 64) (M.take (64 - u.n % 64))) = .sl (64 - 0) 1 (((pS ⟨u.st,splI u.blk (u.n % 64) (M.take (64 - u.n % 64)),u.n+min M.length (64 - u.n % 64)⟩).drop (0+8+0 * 1)).take ((64 - 0) * 1)) none:=by
       rw [Yp]
       refine Xp1 (by rw [hbl]) ?_
       show _=(((splI u.blk (u.n % 64) (M.take (64 - u.n % 64))).map Xh ++ [_])).take 64
       rw [List.take_left' (by rw [List.length_map,hbl])]
      rw [e]
      exact .cons (.msl _ _ _ _ _ S_ (by rw [X1p hbl];decide)) .nil))
     (fun x hx c hcx=>by simp at hx;subst hx;exact (X2m _ c hcx).lowI) S_ (.agg _ (Y4t _)) rfl
    refine wk ?_
    refine X5.stB (new:=pH (cmpH Yy u.st (splI u.blk (u.n % 64) (M.take (64 - u.n % 64))))) rfl rfl rfl rfl rfl rfl rfl rfl rfl ⟨rfl,by rw [X1p hbl];show 0+8≤73;omega⟩ (Y1w _) ?_
    refine wk ?_
    have ht:u.turn Yy (M.take (64 - u.n % 64))=⟨cmpH Yy u.st (splI u.blk (u.n % 64) (M.take (64 - u.n % 64))),splI u.blk (u.n % 64) (M.take (64 - u.n % 64)),u.n+min M.length (64 - u.n % 64)⟩:=by rw [Strm.turn,if_pos (by rw [hX];exact hful),Strm.put,Strm.full,hX]
    have l1:=X2m ⟨cmpH Yy u.st (splI u.blk (u.n % 64) (M.take (64 - u.n % 64))),splI u.blk (u.n % 64) (M.take (64 - u.n % 64)),u.n+min M.length (64 - u.n % 64)⟩
    refine Y4 (⟨cmpH Yy u.st (splI u.blk (u.n % 64) (M.take (64 - u.n % 64))),splI u.blk (u.n % 64) (M.take (64 - u.n % 64)),u.n+min M.length (64 - u.n % 64)⟩,M.drop (64 - u.n % 64)) ⟨hbl,fun c hcx=>hM c (List.mem_of_mem_drop hcx),by simp only [hdl];omega,?_⟩ (by simp only [hdl];omega) ?_
    ·rw [←he,X8i Yy u h0,ht]
    ·dsimp only
     exact sb
   ·refine wk ?_
    have ht:u.turn Yy (M.take (64 - u.n % 64))=⟨u.st,splI u.blk (u.n % 64) (M.take (64 - u.n % 64)),u.n+min M.length (64 - u.n % 64)⟩:=by rw [Strm.turn,if_neg (by rw [hX];exact hful),Strm.put,hX]
    have l1:=X2m ⟨u.st,splI u.blk (u.n % 64) (M.take (64 - u.n % 64)),u.n+min M.length (64 - u.n % 64)⟩
    refine Y4 (⟨u.st,splI u.blk (u.n % 64) (M.take (64 - u.n % 64)),u.n+min M.length (64 - u.n % 64)⟩,M.drop (64 - u.n % 64)) ⟨hbl,fun c hcx=>hM c (List.mem_of_mem_drop hcx),by simp only [hdl];omega,?_⟩ (by simp only [hdl];omega) ?_
    ·rw [←he,X8i Yy u h0,ht]
    ·dsimp only
     exact sb
def h8L (s:H8):List Int := [s.a,s.b,s.c,s.d,s.e,s.f,s.g,s.h]
def zc (n:Nat):Nat:=(119 - n % 64) % 64
def Xbz (m:Int) (i:Nat):Int:=IntKind.u8.wrap (m.fdiv (2 ^ (min (56 - 8 * (i:Int)).toNat IntKind.u64.bits)))
def be8 (m:Int) (k:Nat):List Int:=(List.range k).map (Xbz m)
def padI (n:Nat):List Int:=128 :: List.replicate (zc n) 0 ++ be8 (IntKind.u64.wrap (8 * (n:Int))) 8
def outV (s:H8) (i:Nat):Int:=IntKind.u8.wrap (((h8L s).getD (i / 4) default).fdiv (2 ^ (min (24 - 8 * ((i:Int) % 4)).toNat IntKind.u32.bits)))
def outW (s:H8):Nat→List Int
 |0=>List.replicate 32 0
 |i+1=>(outW s i).set i (outV s i)
theorem X84 (s:H8):∀i,(outW s i).length=32
 |0=>by simp [outW]
 |i+1=>by rw [outW,List.length_set,X84 s i]
def sumS (ks:List Int) (s:Strm):List Int:=outW (addS ks s (padI s.n)).st 32
theorem pS_h {s:Strm} {j:Nat} (h:j < 8):(pS s)[j]? = some (pu32 ((h8L s.st).getD j default)):=by
 match j,h with
 |0,_=>rfl
 |1,_=>rfl
 |2,_=>rfl
 |3,_=>rfl
 |4,_=>rfl
 |5,_=>rfl
 |6,_=>rfl
 |7,_=>rfl
theorem Xpr (m:Int) (i:Nat):0≤Xbz m i∧Xbz m i < 256:=by
 unfold Xbz
 rw [IntKind.wrap_u8];omega
theorem Xtu (n:Nat):∀c∈padI n,0≤c∧c < 256:=by
 intro c hc
 rcases List.mem_append.1 hc with h|h
 ·rcases List.mem_cons.1 h with rfl|h
  ·decide
  ·obtain ⟨-,rfl⟩:=List.mem_replicate.1 h;decide
 ·obtain ⟨i,-,rfl⟩:=List.mem_map.1 h;exact Xpr _ _
theorem Xxb (n:Nat):(padI n).length=zc n+9:=by simp [padI,be8]
theorem Xyg {ks:List Int} {s:Strm} {x:List Int} (h:s.blk.length=64) (hx:s.n % 64+x.length≤64):(s.turn ks x).blk.length=64:=by
 rw [Xxt,Xo0 O_,h]
theorem Xak (ks:List Int):∀(n:Nat) (s:Strm) (bs:List Int),bs.length=n→s.blk.length=64→(addS ks s bs).blk.length=64:=by
 intro n
 induction n using Nat.strongRecOn with
 |_ n ih=>
  intro s bs hl h
  by_cases h0:bs = []
  ·subst h0;rw [Xfy];exact h
  ·have h1:bs.length≠0:=fun e=>h0 (List.eq_nil_of_length_eq_zero e)
   have h2:=Nat.mod_lt s.n (show 0 < 64 by omega)
   rw [X8i ks s h0]
   exact ih _ (by rw [←hl,L_];omega) _ _ rfl (Xyg h (by rw [T_];omega))
theorem Y87 (s:Strm) (hs:s.blk.length=64) (hn:s.n≤100000000000000):Xs Tryz.prog 123 [.agg (pS s)] (· = .agg ((sumS Yy s).map Xh)):=by
 refine Xd X6 Tryz.func123 rfl K_ (by intro p hp;simp at hp;subst hp;exact .agg _ (X2m s)) (by simp [PV.ownB]) N_ ?_
 have hlt:=Nat.mod_lt s.n (show 0 < 64 by omega)
 have l1:=X2m s
 refine wk ?_
 refine X5.boxA rfl rfl rfl rfl rfl (Xex s) (X29 s) ?_
 refine wk ?_
 refine X5.ldB rfl rfl rfl rfl rfl rfl rfl rfl (pS_n hs) rfl ?_
 refine wk ?_
 refine PW.loop (fun k:Nat=>((((((bot.setb 0 (pS s)).put 1 (.ptr 0 0)).setb 1 (List.replicate 32 (Xh 0))).put 2 (.ptr 1 0)).put 3 (pu64 (IntKind.u64.wrap (8 * (s.n:Int))))).put 4 (.sl (k+1) 1 ((128 :: List.replicate k 0).map Xh) (some 5)))) (fun k=>k≤zc s.n) (fun k=>zc s.n - k) 0 O_ ?_ ?_
 ·exact sb
 ·intro k hk
  have hz:zc s.n=(119 - s.n % 64) % 64:=rfl
  refine wk ?_
  refine X5.ldB rfl rfl rfl rfl rfl rfl rfl rfl (pS_n hs) rfl ?_
  refine X5.valE (q:=pint (s.n:Int)) rfl rfl rfl (by show PV.val (.int .i64 (IntKind.i64.wrap _))=PV.val _;try rw [Zp O_ O_]) rfl ?_
  by_cases hkz:k < zc s.n
  ·refine wk ?_
   refine Y4 (k+1) O_ O_ ?_
   have e:(128 :: List.replicate (k+1) (0:Int)).map Xh=(128 :: List.replicate k 0).map Xh ++ [Xh 0]:=by
    rw [List.replicate_succ'];simp
   have ll:Low (.sl (k+1+1) 1 ((128 :: List.replicate (k+1) (0:Int)).map Xh) (some 5)):=Xfm
   rw [e] at ll ⊢
   exact sb
  ·have e:k=zc s.n:=O_
   subst e
   refine wk ?_
   have hp0:(128 :: List.replicate (zc s.n) (0:Int)) ++ be8 (IntKind.u64.wrap (8 * (s.n:Int))) 0=128 :: List.replicate (zc s.n) 0:=by simp [be8]
   have hpl:∀i,((128 :: List.replicate (zc s.n) (0:Int)) ++ be8 (IntKind.u64.wrap (8 * (s.n:Int))) i).length=zc s.n+1+i:=by intro i;simp [be8];omega
   refine PW.loop (fun i:Nat=>((((((bot.setb 0 (pS s)).put 1 (.ptr 0 0)).setb 1 (List.replicate 32 (Xh 0))).put 2 (.ptr 1 0)).put 3 (pu64 (IntKind.u64.wrap (8 * (s.n:Int))))).put 4 (.sl (zc s.n+1+i) 1 (((128 :: List.replicate (zc s.n) 0) ++ be8 (IntKind.u64.wrap (8 * (s.n:Int))) i).map Xh) (some 5))).put 23 (pint i)) (fun i=>i≤8) (fun i=>8 - i) 0 O_ ?_ ?_
   ·rw [hp0]
    exact sb
   ·intro i hi
    by_cases h8:i < 8
    ·refine wk ?_
     refine Y4 (i+1) O_ O_ ?_
     have e2:((128 :: List.replicate (zc s.n) (0:Int)) ++ be8 (IntKind.u64.wrap (8 * (s.n:Int))) (i+1)).map Xh=((128 :: List.replicate (zc s.n) (0:Int)) ++ be8 (IntKind.u64.wrap (8 * (s.n:Int))) i).map Xh ++ [Xh (Xbz (IntKind.u64.wrap (8 * (s.n:Int))) i)]:=by
      rw [be8,be8,List.range_succ];simp
     have ll:Low (.sl (zc s.n+1+(i+1)) 1 (((128 :: List.replicate (zc s.n) (0:Int)) ++ be8 (IntKind.u64.wrap (8 * (s.n:Int))) (i+1)).map Xh) (some 5)):=Xfm
     rw [e2] at ll ⊢
     exact sb
    ·have e:i=8:=O_
     subst e
     have ha:=Xvc s (padI s.n) hs (Xtu _) (by rw [Xxb];omega)
     have hul:=Xak Yy _ s (padI s.n) rfl hs
     obtain ⟨u,hu⟩:∃u,u=addS Yy s (padI s.n):=⟨_,rfl⟩
     rw [←hu] at ha hul
     rw [show sumS Yy s=outW u.st 32 by rw [sumS,hu]]
     have l2:=X2m u
     refine wk ?_
     refine X5.ldAll rfl rfl rfl rfl rfl rfl rfl (X1p hs) (X29 s) ?_
     refine wk ?_
     refine X5.stAll rfl rfl rfl rfl rfl rfl rfl rfl rfl (X1p hul) (X1p hs) (Xex u) (X29 u) ?_
     refine wk ?_
     refine PW.loop (fun i:Nat=>((((((bot.setb 0 (pS u)).put 1 (.ptr 0 0)).setb 1 (List.replicate 32 (Xh 0))).put 2 (.ptr 1 0)).setb 11000 ((outW u.st i).map Xh)).put 6 (.ptr 11000 0)).put 40 (pint i)) (fun i=>i≤32) (fun i=>32 - i) 0 O_ ?_ ?_
     ·exact sb
     ·intro i hi
      have hol:=X84 u.st i
      by_cases h32:i < 32
      ·have hc:(pS u)[((i:Int) / 4).toNat]? = some (pu32 ((h8L u.st).getD (i / 4) default)):=by
        rw [show ((i:Int) / 4).toNat=i / 4 by omega];exact pS_h O_
       have hS:(outW u.st (i+1)).map Xh=((outW u.st i).set (i:Int).toNat (outV u.st i)).map Xh:=rfl
       refine wk ?_
       refine X5.ldB rfl rfl rfl rfl rfl rfl rfl rfl hc rfl ?_
       refine wk ?_
       refine Y4 (i+1) O_ O_ ?_
       exact sb
      ·have e:i=32:=O_
       subst e
       generalize outW u.st 32=O at *
       refine wk ?_
       exact ⟨_,Vb (Yq rfl rfl rfl (Yd hol) (Yx (fun _=>rfl) _)),by exact lw,rfl⟩
end
section
open Go.RowKit
variable {P:Program} {T:Tab} {σ:PS} {o:Oper} {i base:Nat} {ops:Array Oper} {ok:Nat→Nat→Bool} {rest:List (Nat×Oper)} {K:PS→Prop}
theorem X5.bld1 {d f:Nat} {out:List PV} {px:PV} {x:Operand} {t:TypeId} {ti:TyI} {l:List (Nat×Nat×Bool)} (hg:Xk ops σ o=some true) (hd:o.dst=some d) (hop:o.op = .build t #[(f,x)]) (hx:pev σ x=px) (ht:T.at t=some ti) (hk:ti.kind = .struct l) (hb:σ.freeB (base+i)=true) (hf:X11 (fun i=>(l[i]?).map fun x=>(x.1,x.2.1)) ti.zero [(f,px)]=some out)
  (kn:X5 P T ops base ok rest K (σ.put d (.agg out))):X5 P T ops base ok ((i,o) :: rest) K σ:=by
 refine X5.valEq hg hd (p:=.agg out) ?_ rfl hb kn
 simp only [hop,presE,V5,pval,ht,Xjj,hk,List.map_cons,List.map_nil,Xv,hx,hf,Option.map_some]
end
section
open Go.RowKit
theorem Xr0 (s:Sec):X11 (fun i=>(([(0,1,false),(1,64,true)]:List (Nat×Nat×Bool))[i]?).map fun x=>(x.1,x.2.1)) ([PV.val (.int .i64 0)] ++ List.replicate 64 (PV.val (.int .u8 0))) [(1, .agg (secL s))]=some (putL ⟨0,s⟩):=by
 have h2:X01 (.agg (secL s))=some (secL s):=by rw [X01,Ko,Xt];rfl
 rw [X11,h2]
 show (if (secL s).length=64∧1+64≤65 then X11 _ (splF (pint 0 :: List.replicate 64 (PV.val (.int .u8 0))) 1 (secL s)) [] else none)=_
 rw [if_pos ⟨Xl s,D_⟩,X11,Zh _ _ _ (by rw [Xl];exact Nat.le_of_ble_eq_true rfl),Y5,Xl]
 show some (pint 0 :: ([] ++ secL s ++ []))=_
 rw [List.nil_append,List.append_nil];rfl
end
end Go.Proofs.YtmciloafahkolaaGreatDoor
