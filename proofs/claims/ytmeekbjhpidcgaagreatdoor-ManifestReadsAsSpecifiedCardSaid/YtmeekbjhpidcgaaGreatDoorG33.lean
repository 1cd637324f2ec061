/- Out of: Sg. -/
import Derived.Test.YtmeekbjhpidcgaaGreatDoorG27
import Derived.Test.YtmeekbjhpidcgaaGreatDoorG32
namespace Go.Proofs.YtmeekbjhpidcgaaGreatDoor
set_option linter.unusedSimpArgs false
set_option linter.unusedVariables false
set_option linter.unnecessarySimpa false
section
open Go.RowKit
theorem pcRefGetInt (bs:List Int) (hby:Byte bs):PCalls Tryz.prog 75 [pbytes bs] (· = .tup [pint (getI bs).1,pint (getI bs).2.1,pint (getI bs).2.2]):=
 pcalls1 (by kernel_rfl) fun Φ μ w v himm hr=>(refGetInt v bs w (bytes_of_rep himm hr) hby).mono (by
  rintro e w' ⟨rfl,k,rfl⟩
  exact post_flat himm (RepL.cons (.val _ rfl) (RepL.cons (.val _ rfl) (RepL.cons (.val _ rfl) RepL.nil))).tup rfl rfl ((Still.one _ _).below _))
theorem pcRefLength (bs:List Int) (hby:Byte bs):PCalls Tryz.prog 74 [pbytes bs,pint 1] (· = .tup [pint (lenL bs 1).1,pint (lenL bs 1).2.1,pint (lenL bs 1).2.2]):=
 pcalls2 (by kernel_rfl) fun Φ μ w v u himm hr hr2=>by
  obtain ⟨rfl,-⟩:=hr2.val_inv
  exact (refLength v bs 1 w (bytes_of_rep himm hr) hby (by omega) (by omega)).mono (by
  rintro e w' ⟨rfl,k,rfl⟩
  exact post_flat himm (RepL.cons (.val _ rfl) (RepL.cons (.val _ rfl) (RepL.cons (.val _ rfl) RepL.nil))).tup rfl rfl ((Still.one _ _).below _))
theorem pcRefGetInts (bs:List Int) (hby:Byte bs) (hl:bs.length≤1000000000):PCalls Tryz.prog 39 [pbytes bs] (· = .tup [pints (getInts bs).1,pint (getInts bs).2.1,pint (getInts bs).2.2]):=
 pcalls1 (by kernel_rfl) fun Φ μ w v himm hr=>(refGetInts v bs w (bytes_of_rep himm hr) hby hl).mono (by
  rintro e w' ⟨u,rfl,ho,hb⟩
  exact post_tup3 himm (plain_int _) ho hb)
set_option maxRecDepth 10000 in
set_option maxHeartbeats 1000000 in
theorem pw_refGetBytes (bs:List Int) (hby:Byte bs) (hl:bs.length≤1000000000):PCalls Tryz.prog 76 [pbytes bs] (· = .tup [pstr (getS bs).1,pint (getS bs).2.1,pint (getS bs).2.2]):=by
 refine pcalls_of_pw typeTab_ok Tryz.func76 rfl (by kernel_rfl) (by exact lw) (by simp [pbytes,PV.ownB]) (Nat.le_of_ble_eq_true rfl) ?_
 have cg:=pcRefGetInt bs hby
 have ok:=getI_ok bs hby.all
 obtain ⟨n,u,er,h1⟩:∃n u er,getI bs=(n,u,er):=⟨_,_,_,rfl⟩
 have hG:getS bs=if er≠0 then (ByteArray.empty,0,er) else if n < 0 then (ByteArray.empty,0,11) else if (bs.length:Int) - u < n then (ByteArray.empty,0,10) else (strOf ((bs.drop u.toNat).take n.toNat),u+n,0):=by
  rw [getS,lenL,h1]
  by_cases e1:er=0
  ·by_cases e2:n < 0
   ·simp [e1,e2]
   ·by_cases e3:(bs.length:Int) - u < n
    ·simp [e1,e2,e3]
    ·simp [e1,e2,e3]
  ·simp [e1]
 rw [h1] at cg ok
 clear h1
 simp only at cg ok
 refine wk ?_
 by_cases g1:er=0
 case neg=>
  refine wk ?_
  refine retP rfl (by exact lw) ?_
  rw [hG,if_pos g1];rfl
 subst g1
 obtain ⟨o1,o2,o3,o4⟩:=ok rfl
 refine wk ?_
 by_cases g2:n < 0
 ·refine wk ?_
  refine retP rfl (by exact lw) ?_
  rw [hG,if_neg (by simp),if_pos g2];rfl
 refine wk ?_
 by_cases g3:(bs.length:Int) - u < n
 ·refine wk ?_
  refine retP rfl (by exact lw) ?_
  rw [hG,if_neg (by simp),if_neg g2,if_pos g3];rfl
 obtain ⟨N,rfl⟩:∃N:Nat,n=N:=⟨n.toNat,by omega⟩
 obtain ⟨U,rfl⟩:∃N:Nat,u=N:=⟨u.toNat,by omega⟩
 have hG2:getS bs=(strOf ((bs.drop U).take N),(U:Int)+(N:Int),0):=by
  rw [hG,if_neg (by simp),if_neg g2,if_neg g3];simp
 clear hG
 rw [hG2]
 refine wk ?_
 refine retP rfl (by exact lw) ?_
 rw [show ((U:Int)+(N:Int)).toNat - ((U:Int)).toNat=N by omega];rfl
theorem weak_nil3 (k:Nat) (a b:Int):Weak (.tup [.nilsl,pint a,pint b]) (.tup [.sl 0 k [] none,pint a,pint b]):=
 .tup (.cons (.nil k) (.cons (.refl _) (.cons (.refl _) .nil)))
set_option maxRecDepth 10000 in
set_option maxHeartbeats 1000000 in
theorem pw_refGetStrs (bs:List Int) (hby:Byte bs) (hl:bs.length≤1000000000):PCalls Tryz.prog 40 [pbytes bs] (· = .tup [pstrs (getStrs bs).1,pint (getStrs bs).2.1,pint (getStrs bs).2.2]):=by
 refine PCalls.weak ?_
 refine pcalls_of_pw typeTab_ok Tryz.func40 rfl (by kernel_rfl) (by exact lw) (by simp [pbytes,PV.ownB]) (Nat.le_of_ble_eq_true rfl) ?_
 have cg:=pcRefLength bs hby
 have ok:=lenL_ok bs 1 hby.all
 obtain ⟨n,u,er,h1⟩:∃n u er,lenL bs 1=(n,u,er):=⟨_,_,_,rfl⟩
 have hD:getStrs bs=if er≠0 then ([],0,er) else andThenS [] u (getNS n.toNat (bs.drop u.toNat)):=by rw [getStrs,h1]
 rw [h1] at cg ok
 clear h1
 simp only [Int.ediv_one] at cg ok
 refine wk ?_
 by_cases g1:er=0
 case neg=>
  refine wk ?_
  refine retP (r:=.tup [.nilsl,pint 0,pint er]) rfl (by exact lw) ?_
  rw [hD,if_pos g1];exact weak_nil3 1 0 er
 subst g1
 obtain ⟨o1,o2,o3,o4⟩:=ok rfl
 rw [if_neg (by simp)] at hD
 obtain ⟨N,rfl⟩:∃N:Nat,n=N:=⟨n.toNat,by omega⟩
 obtain ⟨U,rfl⟩:∃N:Nat,u=N:=⟨u.toNat,by omega⟩
 simp only [Int.toNat_natCast] at hD
 refine wk ?_
 refine PW.loop (fun x:List ByteArray×Nat=>((((bot.put 0 (pbytes bs)).put 5 (pint N)).put 6 (pint x.2)).put 8 (.sl x.1.length 1 (x.1.map pstr) (some 9))).put 9 (pint x.1.length)) (fun x=>x.1.length≤N∧x.2≤bs.length∧getStrs bs=andThenS x.1 x.2 (getNS (N - x.1.length) (bs.drop x.2))) (fun x=>N - x.1.length) ([],U) ⟨by simp,by omega,hD⟩ ?_ ?_
 ·exact sb
 ·rintro ⟨out,A⟩ ⟨i1,i2,i3⟩
  simp only at i1 i2 i3
  simp only
  by_cases hlt:out.length < N
  ·have cb:=pw_refGetBytes (bs.drop A) (hby.drop A) (by rw [List.length_drop];omega)
   have okb:=getS_ok (bs.drop A) (hby.drop A).all
   obtain ⟨x,v,e2,h2⟩:∃x v e2,getS (bs.drop A)=(x,v,e2):=⟨_,_,_,rfl⟩
   rw [h2] at cb okb
   simp only at cb okb
   rw [show N - out.length=(N - out.length - 1)+1 by omega] at i3
   refine wk ?_
   by_cases g2:e2=0
   case neg=>
    refine wk ?_
    refine retP (r:=.tup [.nilsl,pint 0,pint e2]) rfl (by exact lw) ?_
    rw [i3,andThenS_err _ _ _ _ _ h2 g2];exact weak_nil3 1 0 e2
   subst g2
   obtain ⟨p1,p2⟩:=okb rfl
   rw [List.length_drop] at p2
   obtain ⟨V,rfl⟩:∃N:Nat,v=N:=⟨v.toNat,by omega⟩
   have i4:=i3
   rw [andThenS_step _ _ _ _ _ h2 rfl] at i4
   simp only [Int.toNat_natCast,List.drop_drop] at i4
   clear i3 hD h2 cb
   refine wk ?_
   refine loopP (out ++ [x],A+V) ⟨by simp;omega,by omega,?_⟩ (by simp;omega) ?_
   ·rw [i4];simp only [List.length_append,List.length_cons,List.length_nil]
    rw [show N - (out.length+(0+1))=N - out.length - 1 by omega];rfl
   ·have hl2:(out ++ [x]).length=out.length+1:=by simp
    have hm2:(out ++ [x]).map pstr=out.map pstr ++ [pstr x]:=by simp
    have ll:Low (.sl (out.length+1) 1 (out.map pstr ++ [pstr x]) (some 9)):=by rw [←hm2];exact low_mapS
    simp only [hl2,hm2]
    exact sb
  ·refine wk ?_
   refine retP (r:=.tup [.sl out.length 1 (out.map pstr) none,pint A,pint 0]) rfl (by simp [low_tup,low_pint];exact low_mapS) ?_
   have i4:=i3
   rw [show N - out.length=0 by omega,andThenS_done] at i4
   rw [i4];exact .refl _
end
end Go.Proofs.YtmeekbjhpidcgaaGreatDoor
