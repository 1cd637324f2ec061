/- Out of: Wire4, Wire5. -/
import Derived.Test.YtmeekbjhpidcgaaGreatDoorG11
import Derived.Test.YtmeekbjhpidcgaaGreatDoorG12
namespace Go.Proofs.YtmeekbjhpidcgaaGreatDoor
set_option linter.unusedSimpArgs false
set_option linter.unusedVariables false
set_option linter.unnecessarySimpa false
section
open Go.RowKit
set_option maxRecDepth 100000 in
set_option maxHeartbeats 1000000 in
theorem refLength (v:Value) (bs:List Int) (least:Int) (w:World) (hv:Bytes w v bs) (hby:Byte bs) (hl:1≤least) (hl2:least≤1000):Calls Tryz.prog 74 #[v, .int .i64 least] w (Ret3 w (lenL bs least)):=by
 obtain ⟨a,cap,b,off,hvv,hcap,hm,-⟩:=hv.open
 unfold maxLen at hm
 have ok:=Hid.mk (getI_ok bs hby.all)
 obtain ⟨n,u,er,hr⟩:∃n u er,getI bs=(n,u,er):=⟨_,_,_,rfl⟩
 have L:Hid (lenL bs least=if er≠0 then (0,0,er) else if n < 0 then (0,0,11) else if (bs.length - u) / least < n then (0,0,10) else (n,u,0)):=by
  rw [Hid,lenL,hr]
 have HR:=Hid.mk hr
 rw [hr] at ok
 clear hr
 subst hvv
 by_cases g:er=0
 ·obtain rfl:=g
  obtain ⟨o1,o2,o3,o4⟩:=ok.out rfl
  simp only at o1 o2 o3 o4
  by_cases g1:n < 0
  ·have L2:Hid (lenL bs least=(0,0,11)):=by rw [Hid,L.out,if_neg (by simp),if_pos g1]
   go_enter Tryz.func74,Tryz.ntmps74
   go_wp2_with (go_at_call 75;refine (refGetInt _ bs _ hv hby).mono ?_;rintro e w' ⟨rfl,k,rfl⟩;rw [HR.out])
   go_ret3
   exact Ret3.mk L2.out (Still.one _ _)
  ·by_cases g2:(bs.length - u) / least < n
   ·have L2:Hid (lenL bs least=(0,0,10)):=by rw [Hid,L.out,if_neg (by simp),if_neg g1,if_pos g2]
    go_enter Tryz.func74,Tryz.ntmps74
    go_wp2_with (go_at_call 75;refine (refGetInt _ bs _ hv hby).mono ?_;rintro e w' ⟨rfl,k,rfl⟩;rw [HR.out])
    go_ret3
    exact Ret3.mk L2.out (Still.one _ _)
   ·have L2:Hid (lenL bs least=(n,u,0)):=by rw [Hid,L.out,if_neg (by simp),if_neg g1,if_neg g2]
    go_enter Tryz.func74,Tryz.ntmps74
    go_wp2_with (go_at_call 75;refine (refGetInt _ bs _ hv hby).mono ?_;rintro e w' ⟨rfl,k,rfl⟩;rw [HR.out])
    go_ret3
    exact Ret3.mk L2.out (Still.one _ _)
 ·have g' : (er == 0)=false:=by simpa using g
  have L2:Hid (lenL bs least=(0,0,er)):=by rw [Hid,L.out,if_pos g]
  go_enter Tryz.func74,Tryz.ntmps74
  go_wp2_with (go_at_call 75;refine (refGetInt _ bs _ hv hby).mono ?_;rintro e w' ⟨rfl,k,rfl⟩;rw [HR.out])
  go_ret3
  exact Ret3.mk L2.out (Still.one _ _)
set_option maxRecDepth 100000 in
set_option maxHeartbeats 1000000 in
theorem refInts (v:Value) (zs:List Int) (w:World) (hv:Ints w v zs) (hf:Fit zs) (hl:zs.length≤1000000000):Calls Tryz.prog 42 #[v] w (MadeBytes w (intsB zs)):=by
 obtain ⟨a,cap,b,off,rfl,hcap,hm,ha,hc⟩:=hv.open
 have HF:=Hid.mk hf
 have hl0:=intB_len zs.length (by omega) (by omega)
 go_enter Tryz.func42,Tryz.ntmps42
 go_wp2_with (go_at_call 77;refine (refInt _ _ (by omega) (by omega)).mono ?_;rintro e w1 ⟨v1,rfl,ho1,hb1⟩)
 go_loopw [3,4] (fun o i wr=>∃k:Nat,k≤zs.length∧i = .int .i64 k∧Own w.heap.size 5 wr o ((intB zs.length ++ ((zs.take k).map intB).flatten).map (Value.int .u8))∧Below w.heap.size w wr) (fun _ i _=>zs.length - (intOf i).toNat)
 case atStart=>exact ⟨0,by omega,rfl,by simpa using ho1,hb1⟩
 case round=>
  obtain ⟨k,hk,rfl,hown,hb⟩:=hrel
  have HB:=Hid.mk hb
  clear hb
  have hb2:=HB.out.size
  by_cases hlt:k < zs.length
  ·obtain ⟨y,hy⟩:=ints_get zs k hlt
   have c1:=below_cell HB.out (hc.out k y hy)
   obtain ⟨y1,y2⟩:=HF.out y (List.mem_of_getElem? hy)
   have hl1:=intB_len y y1 y2
   have hl2:=flat_len (zs.take k) (fun z hz=>HF.out z (List.mem_of_mem_take hz))
   have hl3:(zs.take k).length≤zs.length:=by rw [List.length_take];omega
   obtain rfl:=ha (by omega)
   have T:=Hid.mk (flat_take zs k y hy)
   clear ha hy
   go_wp2_with (first|(at_builtin;refine wp_append (.tmp 14) (.tmp 19) 26 5 1 _ elemByte rfl rfl Tryz.underlying26 w.heap.size _ _ _ _ rfl (hown.kept hb3) rfl ho3.rd (by simp only [List.length_map];omega) (oneCells _ _) (by simp only [List.length_map,List.length_append,maxLen];omega) (by simp only [List.length_map,List.length_append];omega) (by have:=hb3.size;omega) ?_;intro v' w' hown' hb')|(go_at_call 77;refine (refInt _ _ y1 y2).mono ?_;rintro e w3 ⟨v3,rfl,ho3,hb3⟩))
   go_roundw
   case rel=>exact ⟨k+1,by omega,by go_num,by rw [T.out,←List.append_assoc,List.map_append];exact hown',(HB.out.trans (hb3.mono hb2)).trans hb'⟩
   case measure=>simp [intOf];omega
  ·have e:zs.take k=zs:=List.take_of_length_le (by omega)
   rw [e] at hown
   go_wp2
   go_ret
   exact ⟨_,rfl,hown,HB.out⟩
set_option maxRecDepth 100000 in
set_option maxHeartbeats 1000000 in
theorem refGetInts (v:Value) (bs:List Int) (w:World) (hv:Bytes w v bs) (hby:Byte bs) (hl:bs.length≤1000000000):Calls Tryz.prog 39 #[v] w (MadeIntsN w (getInts bs)):=by
 obtain ⟨a,cap,b,off,hvv,hcap,hm,ha,hc⟩:=hv.open
 have ok:=Hid.mk (lenL_ok bs 1 hby.all)
 obtain ⟨n,u,er,hr⟩:∃n u er,lenL bs 1=(n,u,er):=⟨_,_,_,rfl⟩
 have L:Hid (getInts bs=if er≠0 then ([],0,er) else andThen [] u (getN n.toNat (bs.drop u.toNat))):=by
  rw [Hid,getInts,hr]
 have HR:=Hid.mk hr
 rw [hr] at ok
 clear hr
 subst hvv
 by_cases g:er=0
 ·obtain rfl:=g
  obtain ⟨o1,o2,o3,o4⟩:=ok.out rfl
  simp only [Int.ediv_one] at o1 o2 o3 o4
  obtain ⟨N,rfl⟩:∃N:Nat,n=N:=⟨n.toNat,by omega⟩
  obtain ⟨U,rfl⟩:∃N:Nat,u=N:=⟨u.toNat,by omega⟩
  have L2:Hid (getInts bs=andThen [] U (getN N (bs.drop U))):=by rw [Hid,L.out,if_neg (by simp)];rfl
  obtain rfl:=ha (by omega)
  clear ha L ok
  go_enter Tryz.func39,Tryz.ntmps39
  go_wp2_with (go_at_call 74;refine (refLength _ bs _ _ hv hby (by omega) (by omega)).mono ?_;rintro e w' ⟨rfl,k,rfl⟩;rw [HR.out])
  go_loopw [6,8,9] (fun p o i wr=>∃(j m:Nat) (out:List Int),j≤N∧U≤m∧m≤bs.length∧out.length=j∧i = .int .i64 j∧p = .int .i64 m∧Own w.heap.size 3 wr o (out.map (Value.int .i64))∧Below w.heap.size w wr∧Hid (getInts bs=andThen out m (getN (N - j) (bs.drop m)))) (fun _ _ i _=>N - (intOf i).toNat)
  case atStart=>exact ⟨0,U,[],by omega,by omega,by omega,rfl,rfl,rfl,Own.nil _ _ _,(Still.one _ _).below _,L2⟩
  case round=>
   obtain ⟨j,m,out,hj,hUm,hmb,ho,rfl,rfl,hown,hb,hh⟩:=hrel
   have HB:=Hid.mk hb
   have hb2:=hb.size
   have HO:=Hid.mk ho
   clear hb ho
   by_cases hlt:j < N
   ·have hv' : Bytes wr (.slice (some (if cap=m then ⟨b,off,none⟩ else ⟨b,off+m,none⟩)) (bs.length - m) (cap - m)) (bs.drop m):=by
     split
     ·rw [show bs.length - m=0 by omega];exact Bytes.dropEnd (by omega) (by omega)
     ·exact Bytes.dropAt hcap hm (fun j x hx=>below_cell HB.out (hc.out j x hx)) hmb
    have ok:=Hid.mk (getI_ok (bs.drop m) (hby.drop m).all)
    obtain ⟨x,us,e2,hr2⟩:∃x us e2,getI (bs.drop m)=(x,us,e2):=⟨_,_,_,rfl⟩
    have HV:=Hid.mk hv'
    have HR2:=Hid.mk hr2
    have NX:Hid (N - j=(N - (j+1))+1):=by rw [Hid];omega
    rw [hr2] at ok
    clear hr2 hv'
    by_cases g2:e2=0
    ·obtain rfl:=g2
     obtain ⟨p1,p2,p3,p4⟩:=ok.out rfl
     simp only [List.length_drop] at p1 p2 p3 p4
     obtain ⟨us,rfl⟩:∃N:Nat,us=N:=⟨us.toNat,by omega⟩
     have ST:Hid (getInts bs=andThen (out ++ [x]) (m+us) (getN (N - (j+1)) (bs.drop (m+us)))):=by
      rw [Hid,hh.out,NX.out,andThen_step out m _ _ _ HR2.out rfl];simp
     have LO:out.length≤N:=by rw [HO.out];omega
     clear ok hh NX
     have ec:¬cap=m:=by omega
     all_goals have HV':=HV.out
     all_goals first|rw [if_pos ec] at HV' | rw [if_neg ec] at HV'
     all_goals have HVV:=Hid.mk HV'
     all_goals clear HV'
     all_goals
      go_wp2_with (first|(at_builtin;refine wp_push (.tmp 38) (.tmp 40) 22 _ 3 8 _ elemInt rfl rfl Tryz.underlying22 w.heap.size _ (.int .i64 x) _ rfl hown.drewN rfl rfl (by simp [maxLen];omega) (by simp;omega) hb2 ?_;intro v' w' hown' hb')|(go_at_call 75;refine (refGetInt _ (bs.drop m) _ (by first|exact HVV.out|(have h:=HVV.out;simp [ec] at h ⊢; exact h)) (hby.drop m)).mono ?_;rintro e w' ⟨rfl,q,rfl⟩;rw [HR2.out]))
      go_roundw
      case rel=>exact ⟨j+1,m+us,out ++ [x],by omega,by omega,by omega,by simp [HO.out],by go_num,by go_num,by simpa using hown',(HB.out.trans ((Still.one _ _).below _)).trans hb',ST⟩
      case measure=>simp [intOf];omega
    ·have g2' : (e2 == 0)=false:=by simpa using g2
     have ST:Hid (getInts bs=([],0,e2)):=by
      rw [Hid,hh.out,NX.out,andThen_err out m _ _ _ HR2.out g2]
     clear ok hh NX
     by_cases ec:cap=m
     all_goals have HV':=HV.out
     all_goals first|rw [if_pos ec] at HV' | rw [if_neg ec] at HV'
     all_goals have HVV:=Hid.mk HV'
     all_goals clear HV'
     all_goals
      go_wp2_with (go_at_call 75;refine (refGetInt _ (bs.drop m) _ (by first|exact HVV.out|(have h:=HVV.out;simp [ec] at h ⊢; exact h)) (hby.drop m)).mono ?_;rintro e w' ⟨rfl,q,rfl⟩;rw [HR2.out])
      go_ret3
      exact MadeIntsN.mk ST.out (Own.nil _ _ _) (HB.out.trans ((Still.one _ _).below _))
   ·have DN:Hid (getInts bs=(out,(m:Int),0)):=by
     rw [Hid,hh.out,show N - j=0 by omega,andThen_done]
    go_wp2
    go_ret3
    exact MadeIntsN.mk DN.out hown HB.out
 ·have g' : (er == 0)=false:=by simpa using g
  have L2:Hid (getInts bs=([],0,er)):=by rw [Hid,L.out,if_pos g]
  go_enter Tryz.func39,Tryz.ntmps39
  go_wp2_with (go_at_call 74;refine (refLength _ bs _ _ hv hby (by omega) (by omega)).mono ?_;rintro e w' ⟨rfl,k,rfl⟩;rw [HR.out])
  go_ret3
  exact MadeIntsN.mk L2.out (Own.nil _ _ _) ((Still.one _ _).below _)
end
end Go.Proofs.YtmeekbjhpidcgaaGreatDoor
