/- Out of: StrB. -/
import Derived.Test.YtmeekbjhpidcgaaDoorG10
namespace Go.Proofs.YtmeekbjhpidcgaaDoor
set_option linter.unusedSimpArgs false
set_option linter.unusedVariables false
set_option linter.unnecessarySimpa false
section
open Go.RowKit
def MadeStrsN (w:World) (r:List ByteArray×Int×Int) (e:Ending) (w' : World):Prop:=
 ∃v,e = .returned (.tuple #[v, .int .i64 r.2.1, .int .i64 r.2.2])∧Own w.heap.size 9 w' v (r.1.map Value.string)∧Below w.heap.size w w'
theorem MadeStrsN.mk {w w' : World} {r:List ByteArray×Int×Int} {l:List ByteArray} {x y:Int} {v:Value} (h:r=(l,x,y)) (ho:Own w.heap.size 9 w' v (l.map Value.string)) (hb:Below w.heap.size w w') :
  MadeStrsN w r (.returned (.tuple #[v, .int .i64 x, .int .i64 y])) w':=by
 subst h;exact ⟨v,rfl,ho,hb⟩
def RetS3 (w:World) (r:ByteArray×Int×Int) (e:Ending) (w' : World):Prop:=
 e = .returned (.tuple #[.string r.1, .int .i64 r.2.1, .int .i64 r.2.2])∧Still w w'
theorem RetS3.mk {w w' : World} {r:ByteArray×Int×Int} {x:ByteArray} {y z:Int} (h:r=(x,y,z)) (hs:Still w w'):RetS3 w r (.returned (.tuple #[.string x, .int .i64 y, .int .i64 z])) w':=by
 subst h;exact ⟨rfl,hs⟩
theorem Bytes.mid {w:World} {bs:List Int} {cap b off m n:Nat} (hcap:bs.length≤cap) (hm:cap≤maxLen) (hc:∀(j:Nat) (x:Int),bs[j]? = some x→w.cell? ⟨b,off+j,none⟩=some (.int .u8 x)) (hle:m+n≤bs.length) :
  Bytes w (.slice (some ⟨b,off+m,none⟩) n (cap - m)) ((bs.drop m).take n):=by
 have hl:((bs.drop m).take n).length=n:=by rw [List.length_take,List.length_drop];omega
 refine ⟨_,cap - m,b,off+m,by rw [List.length_map,hl],by rw [List.length_map,hl];omega,by omega,fun _=>rfl,fun j u hu=>?_⟩
 rw [List.getElem?_map] at hu
 obtain ⟨x,hx,rfl⟩:=Option.map_eq_some_iff.1 hu
 rw [List.getElem?_take] at hx
 split at hx
 ·rw [List.getElem?_drop] at hx
  rw [Nat.add_assoc];exact hc _ _ hx
 ·cases hx
theorem Bytes.empty {w:World} {a:Option Addr} {c:Nat} (hc:c≤maxLen):Bytes w (.slice a 0 c) []:=
 ⟨a,c,0,0,rfl,by simp,hc,fun h=>by simp at h,fun j u hu=>by simp at hu⟩
set_option maxRecDepth 100000 in
set_option maxHeartbeats 1000000 in
theorem wireGetBytes (v:Value) (bs:List Int) (w:World) (hv:Bytes w v bs) (hby:Byte bs):Calls Tryd.prog 53 #[v] w (RetS3 w (getS bs)):=by
 obtain ⟨a,cap,b,off,hvv,hcap,hm,ha,hc⟩:=hv.open
 have ok:=Hid.mk (lenL_ok bs 1 hby.all)
 obtain ⟨n,u,er,hr⟩:∃n u er,lenL bs 1=(n,u,er):=⟨_,_,_,rfl⟩
 have L:Hid (getS bs=if er≠0 then (ByteArray.empty,0,er) else (strOf ((bs.drop u.toNat).take n.toNat),u+n,0)):=by
  rw [Hid,getS,hr]
 have HR:=Hid.mk hr
 rw [hr] at ok
 clear hr
 subst hvv
 by_cases g:er=0
 ·obtain rfl:=g
  obtain ⟨o1,o2,o3,o4⟩:=ok.out rfl
  simp only [Int.ediv_one] at o1 o2 o3 o4
  obtain ⟨N,rfl⟩:∃N:Nat,n=N:=⟨n.toNat,by omega⟩
  obtain ⟨U,rfl⟩:∃N:Nat,u=N:=⟨u.toNat,by omega⟩
  have L2:Hid (getS bs=(strOf ((bs.drop U).take N),(U:Int)+(N:Int),0)):=by rw [Hid,L.out,if_neg (by simp)];simp
  obtain rfl:=ha (by omega)
  have HV:=Hid.mk hv
  have HC:=Hid.mk (fun (k:Nat)=>Bytes.mid (w:=w.drewN k) (m:=U) (n:=N) hcap hm (fun j x hx=>hc.out j x hx) (by omega))
  have HM:=hm
  unfold maxLen at hm
  clear ha L ok hc hv
  by_cases ec:cap=U
  ·subst ec
   obtain rfl:N=0:=by omega
   have cv:∀k,(convert 87 9 (.slice (some ⟨b,off,none⟩) 0 0)).run Tryd.prog (w.drewN k) = .ok (.string (strOf [])) (w.drewN k):=fun k=>conv_bytes (Bytes.empty (by unfold maxLen;omega))
   have L3:Hid (getS bs=(strOf [],(cap:Int),0)):=by rw [Hid,L2.out];simp
   clear HM HC
   generalize strOf []=st at *
   go_enter Tryd.func53,Tryd.ntmps53
   go_wp2_with (go_at_call 70;refine (wireLength _ bs _ _ HV.out hby (by omega) (by omega)).mono ?_;rintro e w' ⟨rfl,k,rfl⟩;rw [HR.out])
   go_ret3
   exact RetS3.mk L3.out (Still.one _ _)
  ·have cv:∀k,(convert 87 9 (.slice (some ⟨b,off+U,none⟩) N (cap - U))).run Tryd.prog (w.drewN k) = .ok (.string (strOf ((bs.drop U).take N))) (w.drewN k):=fun k=>conv_bytes (HC.out k)
   clear HM HC
   generalize strOf ((bs.drop U).take N)=st at *
   go_enter Tryd.func53,Tryd.ntmps53
   go_wp2_with (go_at_call 70;refine (wireLength _ bs _ _ HV.out hby (by omega) (by omega)).mono ?_;rintro e w' ⟨rfl,k,rfl⟩;rw [HR.out])
   go_ret3
   exact RetS3.mk L2.out (Still.one _ _)
 ·have g' : (er == 0)=false:=by simpa using g
  have L2:Hid (getS bs=(ByteArray.empty,0,er)):=by rw [Hid,L.out,if_pos g]
  go_enter Tryd.func53,Tryd.ntmps53
  go_wp2_with (go_at_call 70;refine (wireLength _ bs _ _ hv hby (by omega) (by omega)).mono ?_;rintro e w' ⟨rfl,k,rfl⟩;rw [HR.out])
  go_ret3
  exact RetS3.mk L2.out (Still.one _ _)
set_option maxRecDepth 100000 in
set_option maxHeartbeats 1000000 in
theorem wireGetSt (v:Value) (bs:List Int) (w:World) (hv:Bytes w v bs) (hby:Byte bs) (hl:bs.length≤1000000000):Calls Tryd.prog 91 #[v, .int .i64 1, .func (.func 53) #[] #[]] w (MadeStrsN w (getStrs bs)):=by
 obtain ⟨a,cap,b,off,hvv,hcap,hm,ha,hc⟩:=hv.open
 have ok:=Hid.mk (lenL_ok bs 1 hby.all)
 obtain ⟨n,u,er,hr⟩:∃n u er,lenL bs 1=(n,u,er):=⟨_,_,_,rfl⟩
 have L:Hid (getStrs bs=if er≠0 then ([],0,er) else andThenS [] u (getNS n.toNat (bs.drop u.toNat))):=by
  rw [Hid,getStrs,hr]
 have HR:=Hid.mk hr
 rw [hr] at ok
 clear hr
 subst hvv
 by_cases g:er=0
 ·obtain rfl:=g
  obtain ⟨o1,o2,o3,o4⟩:=ok.out rfl
  simp only [Int.ediv_one] at o1 o2 o3 o4
  obtain ⟨N,rfl⟩:∃N:Nat,n=N:=⟨n.toNat,by omega⟩
  obtain ⟨U,rfl⟩:∃N:Nat,u=N:=⟨u.toNat,by omega⟩
  have L2:Hid (getStrs bs=andThenS [] U (getNS N (bs.drop U))):=by rw [Hid,L.out,if_neg (by simp)];rfl
  obtain rfl:=ha (by omega)
  clear ha L ok
  go_enter Tryd.func91,Tryd.ntmps91
  go_wp2_with (go_at_call 70;refine (wireLength _ bs _ _ hv hby (by omega) (by omega)).mono ?_;rintro e w' ⟨rfl,k,rfl⟩;rw [HR.out])
  go_loopw [10,12,27] (fun p o i wr=>∃(j m:Nat) (out:List ByteArray),j≤N∧U≤m∧m≤bs.length∧out.length=j∧i = .int .i64 j∧p = .int .i64 m∧Own w.heap.size 9 wr o (out.map Value.string)∧Below w.heap.size w wr∧Hid (getStrs bs=andThenS out m (getNS (N - j) (bs.drop m)))) (fun _ _ i _=>N - (intOf i).toNat)
  case atStart=>exact ⟨0,U,[],by omega,by omega,by omega,rfl,rfl,rfl,Own.nil _ _ _,(Still.one _ _).below _,L2⟩
  case round=>
   obtain ⟨j,m,out,hj,hUm,hmb,ho,rfl,rfl,hown,hb,hh⟩:=hrel
   have HB:=Hid.mk hb
   have hb2:=hb.size
   have HO:=Hid.mk ho
   clear hb ho
   by_cases hlt:j < N
   ·have hv' : Bytes wr (.slice (some (if cap=m then ⟨b,off,none⟩ else ⟨b,off+m,none⟩)) (bs.length - m) (cap - m)) (bs.drop m):=by
     split
     ·rw [show bs.length - m=0 by omega];exact Bytes.dropEnd (by omega) (by omega)
     ·exact Bytes.dropAt hcap hm (fun j x hx=>below_cell HB.out (hc.out j x hx)) hmb
    have ok:=Hid.mk (getS_ok (bs.drop m) (hby.drop m).all)
    obtain ⟨x,us,e2,hr2⟩:∃x us e2,getS (bs.drop m)=(x,us,e2):=⟨_,_,_,rfl⟩
    have HV:=Hid.mk hv'
    have HR2:=Hid.mk hr2
    have NX:Hid (N - j=(N - (j+1))+1):=by rw [Hid];omega
    rw [hr2] at ok
    clear hr2 hv'
    by_cases g2:e2=0
    ·obtain rfl:=g2
     obtain ⟨p1,p2⟩:=ok.out rfl
     simp only [List.length_drop] at p1 p2
     obtain ⟨us,rfl⟩:∃N:Nat,us=N:=⟨us.toNat,by omega⟩
     have ST:Hid (getStrs bs=andThenS (out ++ [x]) (m+us) (getNS (N - (j+1)) (bs.drop (m+us)))):=by
      rw [Hid,hh.out,NX.out,andThenS_step out m _ _ _ HR2.out rfl];simp
     have LO:out.length≤N:=by rw [HO.out];omega
     clear ok hh NX
     have ec:¬cap=m:=by omega
     all_goals have HV':=HV.out
     all_goals first|rw [if_pos ec] at HV' | rw [if_neg ec] at HV'
     all_goals have HVV:=Hid.mk HV'
     all_goals clear HV'
     all_goals
      go_wp2_with (first|(at_builtin;refine wp_push (.tmp 41) (.tmp 43) 105 _ 9 16 _ elemStr rfl rfl Tryd.underlying105 w.heap.size _ (.string x) _ rfl hown.drewN rfl rfl (by simp [maxLen];omega) (by simp;omega) hb2 ?_;intro v' w' hown' hb')|(go_at_call 53;refine (wireGetBytes _ (bs.drop m) _ (by first|exact HVV.out|(have h:=HVV.out;simp [ec] at h ⊢; exact h)) (hby.drop m)).mono ?_;rintro e w' ⟨rfl,q,rfl⟩;rw [HR2.out]))
      go_roundw
      case rel=>exact ⟨j+1,m+us,out ++ [x],by omega,by omega,by omega,by simp [HO.out],by go_num,by go_num,by simpa using hown',(HB.out.trans ((Still.one _ _).below _)).trans hb',ST⟩
      case measure=>simp [intOf];omega
    ·have g2' : (e2 == 0)=false:=by simpa using g2
     have ST:Hid (getStrs bs=([],0,e2)):=by
      rw [Hid,hh.out,NX.out,andThenS_err out m _ _ _ HR2.out g2]
     clear ok hh NX
     by_cases ec:cap=m
     all_goals have HV':=HV.out
     all_goals first|rw [if_pos ec] at HV' | rw [if_neg ec] at HV'
     all_goals have HVV:=Hid.mk HV'
     all_goals clear HV'
     all_goals
      go_wp2_with (go_at_call 53;refine (wireGetBytes _ (bs.drop m) _ (by first|exact HVV.out|(have h:=HVV.out;simp [ec] at h ⊢; exact h)) (hby.drop m)).mono ?_;rintro e w' ⟨rfl,q,rfl⟩;rw [HR2.out])
      go_ret3
      exact MadeStrsN.mk ST.out (Own.nil _ _ _) (HB.out.trans ((Still.one _ _).below _))
   ·have DN:Hid (getStrs bs=(out,(m:Int),0)):=by
     rw [Hid,hh.out,show N - j=0 by omega,andThenS_done]
    go_wp2
    go_ret3
    exact MadeStrsN.mk DN.out hown HB.out
 ·have g' : (er == 0)=false:=by simpa using g
  have L2:Hid (getStrs bs=([],0,er)):=by rw [Hid,L.out,if_pos g]
  go_enter Tryd.func91,Tryd.ntmps91
  go_wp2_with (go_at_call 70;refine (wireLength _ bs _ _ hv hby (by omega) (by omega)).mono ?_;rintro e w' ⟨rfl,k,rfl⟩;rw [HR.out])
  go_ret3
  exact MadeStrsN.mk L2.out (Own.nil _ _ _) ((Still.one _ _).below _)
theorem wireGetStrings (v:Value) (bs:List Int) (w:World) (hv:Bytes w v bs) (hby:Byte bs) (hl:bs.length≤1000000000):Calls Tryd.prog 72 #[v] w (MadeStrsN w (getStrs bs)):=by
 go_enter Tryd.func72,Tryd.ntmps72
 go_wp2_with (go_at_call 91;refine (wireGetSt _ bs _ hv hby hl).mono ?_;rintro e w1 ⟨v1,rfl,ho1,hb1⟩)
 go_ret3
 exact ⟨_,rfl,ho1,hb1⟩
end
end Go.Proofs.YtmeekbjhpidcgaaDoor
