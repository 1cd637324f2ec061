/- Out of: StrB, PwQ2, Tab, PwSc. -/
import Derived.KernelRfl
import Derived.Test.YtoamkpgaaanafaaGreatK1
import Derived.Test.YtoamkpgaaanafaaGreatK2
import Derived.Test.YtoamkpgaaanafaaGreatK4
import Derived.Test.YtoamkpgaaanafaaGreatK5
import Derived.Test.YtoamkpgaaanafaaGreatK6
namespace Go.Proofs.YtoamkpgaaanafaaGreat
set_option linter.unusedSimpArgs false
set_option linter.unusedVariables false
set_option linter.unnecessarySimpa false
section
open Go.RowKit
def MadeStrsN (w:World) (r:List ByteArray×Int×Int) (e:Ending) (w' : World):Prop:=
 ∃v,e = .returned (.tuple #[v, .int .i64 r.2.1, .int .i64 r.2.2])∧Own w.heap.size 9 w' v (r.1.map Value.string)∧Below w.heap.size w w'
theorem MadeStrsN.mk {w w' : World} {r:List ByteArray×Int×Int} {l:List ByteArray} {x y:Int} {v:Value} (h:r=(l,x,y)) (ho:Own w.heap.size 9 w' v (l.map Value.string)) (hb:Below w.heap.size w w') :
  MadeStrsN w r (.returned (.tuple #[v, .int .i64 x, .int .i64 y])) w':=by
 subst h;exact ⟨v,rfl,ho,hb⟩
def RetS3 (w:World) (r:ByteArray×Int×Int) (e:Ending) (w' : World):Prop:=
 e = .returned (.tuple #[.string r.1, .int .i64 r.2.1, .int .i64 r.2.2])∧Still w w'
theorem RetS3.mk {w w' : World} {r:ByteArray×Int×Int} {x:ByteArray} {y z:Int} (h:r=(x,y,z)) (hs:Still w w'):RetS3 w r (.returned (.tuple #[.string x, .int .i64 y, .int .i64 z])) w':=by
 subst h;exact ⟨rfl,hs⟩
theorem Bytes.mid {w:World} {bs:List Int} {cap b off m n:Nat} (hcap:bs.length≤cap) (hm:cap≤maxLen) (hc:∀(j:Nat) (x:Int),bs[j]? = some x→w.cell? ⟨b,off+j,none⟩=some (.int .u8 x)) (hle:m+n≤bs.length) :
  Bytes w (.slice (some ⟨b,off+m,none⟩) n (cap - m)) ((bs.drop m).take n):=by
 have hl:((bs.drop m).take n).length=n:=by rw [List.length_take,List.length_drop];omega
 refine ⟨_,cap - m,b,off+m,by rw [List.length_map,hl],by rw [List.length_map,hl];omega,by omega,fun _=>rfl,fun j u hu=>?_⟩
 rw [List.getElem?_map] at hu
 obtain ⟨x,hx,rfl⟩:=Option.map_eq_some_iff.1 hu
 rw [List.getElem?_take] at hx
 split at hx
 ·rw [List.getElem?_drop] at hx
  rw [Nat.add_assoc];exact hc _ _ hx
 ·cases hx
theorem Bytes.empty {w:World} {a:Option Addr} {c:Nat} (hc:c≤maxLen):Bytes w (.slice a 0 c) []:=
 ⟨a,c,0,0,rfl,by simp,hc,fun h=>by simp at h,fun j u hu=>by simp at hu⟩
set_option maxRecDepth 100000 in
set_option maxHeartbeats 1000000 in
theorem wireGetBytes (v:Value) (bs:List Int) (w:World) (hv:Bytes w v bs) (hby:Byte bs):Calls Tryz.prog 206 #[v] w (RetS3 w (getS bs)):=by
 obtain ⟨a,cap,b,off,hvv,hcap,hm,ha,hc⟩:=hv.open
 have ok:=Hid.mk (lenL_ok bs 1 hby.all)
 obtain ⟨n,u,er,hr⟩:∃n u er,lenL bs 1=(n,u,er):=⟨_,_,_,rfl⟩
 have L:Hid (getS bs=if er≠0 then (ByteArray.empty,0,er) else (strOf ((bs.drop u.toNat).take n.toNat),u+n,0)):=by
  rw [Hid,getS,hr]
 have HR:=Hid.mk hr
 rw [hr] at ok
 clear hr
 subst hvv
 by_cases g:er=0
 ·obtain rfl:=g
  obtain ⟨o1,o2,o3,o4⟩:=ok.out rfl
  simp only [Int.ediv_one] at o1 o2 o3 o4
  obtain ⟨N,rfl⟩:∃N:Nat,n=N:=⟨n.toNat,by omega⟩
  obtain ⟨U,rfl⟩:∃N:Nat,u=N:=⟨u.toNat,by omega⟩
  have L2:Hid (getS bs=(strOf ((bs.drop U).take N),(U:Int)+(N:Int),0)):=by rw [Hid,L.out,if_neg (by simp)];simp
  obtain rfl:=ha (by omega)
  have HV:=Hid.mk hv
  have HC:=Hid.mk (fun (k:Nat)=>Bytes.mid (w:=w.drewN k) (m:=U) (n:=N) hcap hm (fun j x hx=>hc.out j x hx) (by omega))
  have HM:=hm
  unfold maxLen at hm
  clear ha L ok hc hv
  by_cases ec:cap=U
  ·subst ec
   obtain rfl:N=0:=by omega
   have cv:∀k,(convert 92 9 (.slice (some ⟨b,off,none⟩) 0 0)).run Tryz.prog (w.drewN k) = .ok (.string (strOf [])) (w.drewN k):=fun k=>conv_bytes (Bytes.empty (by unfold maxLen;omega))
   have L3:Hid (getS bs=(strOf [],(cap:Int),0)):=by rw [Hid,L2.out];simp
   clear HM HC
   generalize strOf []=st at *
   go_enter Tryz.func206,Tryz.ntmps206
   go_wp2_with (go_at_call 253;refine (wireLength _ bs _ _ HV.out hby (by omega) (by omega)).mono ?_;rintro e w' ⟨rfl,k,rfl⟩;rw [HR.out])
   go_ret3
   exact RetS3.mk L3.out (Still.one _ _)
  ·have cv:∀k,(convert 92 9 (.slice (some ⟨b,off+U,none⟩) N (cap - U))).run Tryz.prog (w.drewN k) = .ok (.string (strOf ((bs.drop U).take N))) (w.drewN k):=fun k=>conv_bytes (HC.out k)
   clear HM HC
   generalize strOf ((bs.drop U).take N)=st at *
   go_enter Tryz.func206,Tryz.ntmps206
   go_wp2_with (go_at_call 253;refine (wireLength _ bs _ _ HV.out hby (by omega) (by omega)).mono ?_;rintro e w' ⟨rfl,k,rfl⟩;rw [HR.out])
   go_ret3
   exact RetS3.mk L2.out (Still.one _ _)
 ·have g' : (er == 0)=false:=by simpa using g
  have L2:Hid (getS bs=(ByteArray.empty,0,er)):=by rw [Hid,L.out,if_pos g]
  go_enter Tryz.func206,Tryz.ntmps206
  go_wp2_with (go_at_call 253;refine (wireLength _ bs _ _ hv hby (by omega) (by omega)).mono ?_;rintro e w' ⟨rfl,k,rfl⟩;rw [HR.out])
  go_ret3
  exact RetS3.mk L2.out (Still.one _ _)
set_option maxRecDepth 100000 in
set_option maxHeartbeats 1000000 in
theorem wireGetSt (v:Value) (bs:List Int) (w:World) (hv:Bytes w v bs) (hby:Byte bs) (hl:bs.length≤1000000000):Calls Tryz.prog 205 #[v, .int .i64 1, .func (.func 206) #[] #[]] w (MadeStrsN w (getStrs bs)):=by
 obtain ⟨a,cap,b,off,hvv,hcap,hm,ha,hc⟩:=hv.open
 have ok:=Hid.mk (lenL_ok bs 1 hby.all)
 obtain ⟨n,u,er,hr⟩:∃n u er,lenL bs 1=(n,u,er):=⟨_,_,_,rfl⟩
 have L:Hid (getStrs bs=if er≠0 then ([],0,er) else andThenS [] u (getNS n.toNat (bs.drop u.toNat))):=by
  rw [Hid,getStrs,hr]
 have HR:=Hid.mk hr
 rw [hr] at ok
 clear hr
 subst hvv
 by_cases g:er=0
 ·obtain rfl:=g
  obtain ⟨o1,o2,o3,o4⟩:=ok.out rfl
  simp only [Int.ediv_one] at o1 o2 o3 o4
  obtain ⟨N,rfl⟩:∃N:Nat,n=N:=⟨n.toNat,by omega⟩
  obtain ⟨U,rfl⟩:∃N:Nat,u=N:=⟨u.toNat,by omega⟩
  have L2:Hid (getStrs bs=andThenS [] U (getNS N (bs.drop U))):=by rw [Hid,L.out,if_neg (by simp)];rfl
  obtain rfl:=ha (by omega)
  clear ha L ok
  go_enter Tryz.func205,Tryz.ntmps205
  go_wp2_with (go_at_call 253;refine (wireLength _ bs _ _ hv hby (by omega) (by omega)).mono ?_;rintro e w' ⟨rfl,k,rfl⟩;rw [HR.out])
  go_loopw [10,12,27] (fun p o i wr=>∃(j m:Nat) (out:List ByteArray),j≤N∧U≤m∧m≤bs.length∧out.length=j∧i = .int .i64 j∧p = .int .i64 m∧Own w.heap.size 9 wr o (out.map Value.string)∧Below w.heap.size w wr∧Hid (getStrs bs=andThenS out m (getNS (N - j) (bs.drop m)))) (fun _ _ i _=>N - (intOf i).toNat)
  case atStart=>exact ⟨0,U,[],by omega,by omega,by omega,rfl,rfl,rfl,Own.nil _ _ _,(Still.one _ _).below _,L2⟩
  case round=>
   obtain ⟨j,m,out,hj,hUm,hmb,ho,rfl,rfl,hown,hb,hh⟩:=hrel
   have HB:=Hid.mk hb
   have hb2:=hb.size
   have HO:=Hid.mk ho
   clear hb ho
   by_cases hlt:j < N
   ·have hv' : Bytes wr (.slice (some (if cap=m then ⟨b,off,none⟩ else ⟨b,off+m,none⟩)) (bs.length - m) (cap - m)) (bs.drop m):=by
     split
     ·rw [show bs.length - m=0 by omega];exact Bytes.dropEnd (by omega) (by omega)
     ·exact Bytes.dropAt hcap hm (fun j x hx=>below_cell HB.out (hc.out j x hx)) hmb
    have ok:=Hid.mk (getS_ok (bs.drop m) (hby.drop m).all)
    obtain ⟨x,us,e2,hr2⟩:∃x us e2,getS (bs.drop m)=(x,us,e2):=⟨_,_,_,rfl⟩
    have HV:=Hid.mk hv'
    have HR2:=Hid.mk hr2
    have NX:Hid (N - j=(N - (j+1))+1):=by rw [Hid];omega
    rw [hr2] at ok
    clear hr2 hv'
    by_cases g2:e2=0
    ·obtain rfl:=g2
     obtain ⟨p1,p2⟩:=ok.out rfl
     simp only [List.length_drop] at p1 p2
     obtain ⟨us,rfl⟩:∃N:Nat,us=N:=⟨us.toNat,by omega⟩
     have ST:Hid (getStrs bs=andThenS (out ++ [x]) (m+us) (getNS (N - (j+1)) (bs.drop (m+us)))):=by
      rw [Hid,hh.out,NX.out,andThenS_step out m _ _ _ HR2.out rfl];simp
     have LO:out.length≤N:=by rw [HO.out];omega
     clear ok hh NX
     have ec:¬cap=m:=by omega
     all_goals have HV':=HV.out
     all_goals first|rw [if_pos ec] at HV' | rw [if_neg ec] at HV'
     all_goals have HVV:=Hid.mk HV'
     all_goals clear HV'
     all_goals
      go_wp2_with (first|(at_builtin;refine wp_push (.tmp 41) (.tmp 43) 75 _ 9 16 _ elemStr rfl rfl Tryz.underlying75 w.heap.size _ (.string x) _ rfl hown.drewN rfl rfl (by simp [maxLen];omega) (by simp;omega) hb2 ?_;intro v' w' hown' hb')|(go_at_call 206;refine (wireGetBytes _ (bs.drop m) _ (by first|exact HVV.out|(have h:=HVV.out;simp [ec] at h ⊢; exact h)) (hby.drop m)).mono ?_;rintro e w' ⟨rfl,q,rfl⟩;rw [HR2.out]))
      go_roundw
      case rel=>exact ⟨j+1,m+us,out ++ [x],by omega,by omega,by omega,by simp [HO.out],by go_num,by go_num,by simpa using hown',(HB.out.trans ((Still.one _ _).below _)).trans hb',ST⟩
      case measure=>simp [intOf];omega
    ·have g2' : (e2 == 0)=false:=by simpa using g2
     have ST:Hid (getStrs bs=([],0,e2)):=by
      rw [Hid,hh.out,NX.out,andThenS_err out m _ _ _ HR2.out g2]
     clear ok hh NX
     by_cases ec:cap=m
     all_goals have HV':=HV.out
     all_goals first|rw [if_pos ec] at HV' | rw [if_neg ec] at HV'
     all_goals have HVV:=Hid.mk HV'
     all_goals clear HV'
     all_goals
      go_wp2_with (go_at_call 206;refine (wireGetBytes _ (bs.drop m) _ (by first|exact HVV.out|(have h:=HVV.out;simp [ec] at h ⊢; exact h)) (hby.drop m)).mono ?_;rintro e w' ⟨rfl,q,rfl⟩;rw [HR2.out])
      go_ret3
      exact MadeStrsN.mk ST.out (Own.nil _ _ _) (HB.out.trans ((Still.one _ _).below _))
   ·have DN:Hid (getStrs bs=(out,(m:Int),0)):=by
     rw [Hid,hh.out,show N - j=0 by omega,andThenS_done]
    go_wp2
    go_ret3
    exact MadeStrsN.mk DN.out hown HB.out
 ·have g' : (er == 0)=false:=by simpa using g
  have L2:Hid (getStrs bs=([],0,er)):=by rw [Hid,L.out,if_pos g]
  go_enter Tryz.func205,Tryz.ntmps205
  go_wp2_with (go_at_call 253;refine (wireLength _ bs _ _ hv hby (by omega) (by omega)).mono ?_;rintro e w' ⟨rfl,k,rfl⟩;rw [HR.out])
  go_ret3
  exact MadeStrsN.mk L2.out (Own.nil _ _ _) ((Still.one _ _).below _)
theorem wireGetStrings (v:Value) (bs:List Int) (w:World) (hv:Bytes w v bs) (hby:Byte bs) (hl:bs.length≤1000000000):Calls Tryz.prog 120 #[v] w (MadeStrsN w (getStrs bs)):=by
 go_enter Tryz.func120,Tryz.ntmps120
 go_wp2_with (go_at_call 205;refine (wireGetSt _ bs _ hv hby hl).mono ?_;rintro e w1 ⟨v1,rfl,ho1,hb1⟩)
 go_ret3
 exact ⟨_,rfl,ho1,hb1⟩
def pintsO (zs:List Int):PV:=.sl zs.length 1 (zs.map pint) (some 3)
def typeTab:Tab := [
 none,
 some { size:=1,agg:=false,kind:=.func,zero := [.val .nilFunc],eqs := [] },
 some { size:=1,agg:=false,kind:=.int .i64,zero := [.val (.int .i64 0)],eqs := [] },
 some { size:=1,agg:=false,kind:=.int .i64,zero := [.val (.int .i64 0)],eqs := [] },
 some { size:=1,agg:=false,kind:=.bool,zero := [.val (.bool false)],eqs := [] },
 some { size:=1,agg:=false,kind:=.int .u8,zero := [.val (.int .u8 0)],eqs := [] },
 some { size:=1,agg:=false,kind:=.int .u8,zero := [.val (.int .u8 0)],eqs := [] },
 some { size:=4,agg:=true,kind:=.struct [(0,1,false),(1,1,false),(2,1,false),(3,1,false)],zero := [.val (.int .i64 0), .val (.int .i64 0), .val (.bool false), .val (.int .u8 0)],eqs := [.int, .int, .bool, .int] },
 some { size:=4,agg:=true,kind:=.struct [(0,1,false),(1,1,false),(2,1,false),(3,1,false)],zero := [.val (.int .i64 0), .val (.int .i64 0), .val (.bool false), .val (.int .u8 0)],eqs := [.int, .int, .bool, .int] },
 some { size:=1,agg:=false,kind:=.str,zero := [.val (.string { data:={ toList := [] } })],eqs := [] },
 some { size:=1,agg:=false,kind:=.str,zero := [.val (.string { data:={ toList := [] } })],eqs := [] },
 some { size:=1,agg:=false,kind:=.str,zero := [.val (.string { data:={ toList := [] } })],eqs := [] },
 some { size:=1,agg:=false,kind:=.int .u64,zero := [.val (.int .u64 0)],eqs := [] },
 some { size:=2,agg:=true,kind:=.struct [(0,1,false),(1,1,false)],zero := [.val (.string { data:={ toList := [] } }), .val (.int .u64 0)],eqs := [] },
 some { size:=2,agg:=true,kind:=.struct [(0,1,false),(1,1,false)],zero := [.val (.string { data:={ toList := [] } }), .val (.int .u64 0)],eqs := [] },
 some { size:=1,agg:=false,kind:=.ptr,zero := [.val (.pointer none)],eqs := [] },
 some { size:=1,agg:=false,kind:=.ptr,zero := [.val (.pointer none)],eqs := [] },
 some { size:=1,agg:=false,kind:=.ptr,zero := [.val (.pointer none)],eqs := [] },
 some { size:=1,agg:=true,kind:=.struct [(0,1,false)],zero := [.val (.pointer none)],eqs := [] },
 some { size:=1,agg:=true,kind:=.struct [(0,1,false)],zero := [.val (.pointer none)],eqs := [] },
 some { size:=1,agg:=false,kind:=.other,zero := [.val .nilIface],eqs := [] },
 some { size:=1,agg:=false,kind:=.int .i32,zero := [.val (.int .i32 0)],eqs := [] },
 some { size:=1,agg:=false,kind:=.slice 77 5 64 [.val (.string { data:={ toList := [] } }), .val (.int .i64 0), .val (.int .i64 0), .val (.int .i64 0), .nilsl],zero := [.nilsl],eqs := [] },
 some { size:=3,agg:=true,kind:=.struct [(0,1,false),(1,1,false),(2,1,false)],zero := [.val (.int .i64 0), .val (.int .i64 0), .nilsl],eqs := [] },
 some { size:=3,agg:=true,kind:=.struct [(0,1,false),(1,1,false),(2,1,false)],zero := [.val (.int .i64 0), .val (.int .i64 0), .nilsl],eqs := [] },
 some { size:=1,agg:=false,kind:=.slice 27 1 24 [.nilsl],zero := [.nilsl],eqs := [] },
 some { size:=1,agg:=false,kind:=.slice 50 9 104 [.val (.int .i64 0), .val (.int .i64 0), .val (.int .i64 0), .val (.int .i64 0), .val (.int .i64 0), .val (.int .i64 0), .val (.int .i64 0), .nilsl, .nilsl],zero := [.nilsl],eqs := [] },
 some { size:=1,agg:=false,kind:=.slice 3 1 8 [.val (.int .i64 0)],zero := [.nilsl],eqs := [] },
 some { size:=2,agg:=true,kind:=.struct [(0,1,false),(1,1,false)],zero := [.nilsl, .nilsl],eqs := [] },
 some { size:=2,agg:=true,kind:=.struct [(0,1,false),(1,1,false)],zero := [.nilsl, .nilsl],eqs := [] },
 some { size:=1,agg:=false,kind:=.slice 119 2 16 [.val (.int .i64 0), .val (.int .i64 0)],zero := [.nilsl],eqs := [] },
 some { size:=1,agg:=false,kind:=.slice 100 4 48 [.val (.int .i64 0), .val (.int .i64 0), .val (.int .i64 0), .nilsl],zero := [.nilsl],eqs := [] },
 some { size:=10,agg:=true,kind:=.struct [(0,1,false),(1,2,true),(3,1,false),(4,1,false),(5,1,false),(6,1,false),(7,1,false),(8,1,false),(9,1,false)],zero := [.val (.int .i64 0), .nilsl, .nilsl, .nilsl, .val (.int .i64 0), .val (.int .i64 0), .val (.int .i64 0), .val (.int .i64 0), .val (.int .i64 0), .nilsl],eqs := [] },
 some { size:=10,agg:=true,kind:=.struct [(0,1,false),(1,2,true),(3,1,false),(4,1,false),(5,1,false),(6,1,false),(7,1,false),(8,1,false),(9,1,false)],zero := [.val (.int .i64 0), .nilsl, .nilsl, .nilsl, .val (.int .i64 0), .val (.int .i64 0), .val (.int .i64 0), .val (.int .i64 0), .val (.int .i64 0), .nilsl],eqs := [] },
 some { size:=1,agg:=false,kind:=.func,zero := [.val .nilFunc],eqs := [] },
 some { size:=1,agg:=false,kind:=.func,zero := [.val .nilFunc],eqs := [] },
 some { size:=1,agg:=false,kind:=.func,zero := [.val .nilFunc],eqs := [] },
 some { size:=1,agg:=false,kind:=.func,zero := [.val .nilFunc],eqs := [] },
 some { size:=1,agg:=false,kind:=.int .i64,zero := [.val (.int .i64 0)],eqs := [] },
 none,
 some { size:=1,agg:=false,kind:=.func,zero := [.val .nilFunc],eqs := [] },
 some { size:=11,agg:=true,kind:=.struct [(0,10,true),(10,1,false)],zero := [.val (.int .i64 0), .nilsl, .nilsl, .nilsl, .val (.int .i64 0), .val (.int .i64 0), .val (.int .i64 0), .val (.int .i64 0), .val (.int .i64 0), .nilsl, .val (.int .i64 0)],eqs := [] },
 some { size:=11,agg:=true,kind:=.struct [(0,10,true),(10,1,false)],zero := [.val (.int .i64 0), .nilsl, .nilsl, .nilsl, .val (.int .i64 0), .val (.int .i64 0), .val (.int .i64 0), .val (.int .i64 0), .val (.int .i64 0), .nilsl, .val (.int .i64 0)],eqs := [] },
 some { size:=1,agg:=false,kind:=.func,zero := [.val .nilFunc],eqs := [] },
 some { size:=1,agg:=false,kind:=.func,zero := [.val .nilFunc],eqs := [] },
 some { size:=1,agg:=false,kind:=.func,zero := [.val .nilFunc],eqs := [] },
 some { size:=1,agg:=false,kind:=.func,zero := [.val .nilFunc],eqs := [] },
 some { size:=1,agg:=false,kind:=.func,zero := [.val .nilFunc],eqs := [] },
 some { size:=1,agg:=false,kind:=.slice 79 4 48 [.val (.string { data:={ toList := [] } }), .val (.int .i64 0), .val (.int .i64 0), .val (.string { data:={ toList := [] } })],zero := [.nilsl],eqs := [] },
 some { size:=9,agg:=true,kind:=.struct [(0,1,false),(1,1,false),(2,1,false),(3,1,false),(4,1,false),(5,1,false),(6,1,false),(7,1,false),(8,1,false)],zero := [.val (.int .i64 0), .val (.int .i64 0), .val (.int .i64 0), .val (.int .i64 0), .val (.int .i64 0), .val (.int .i64 0), .val (.int .i64 0), .nilsl, .nilsl],eqs := [] },
 some { size:=9,agg:=true,kind:=.struct [(0,1,false),(1,1,false),(2,1,false),(3,1,false),(4,1,false),(5,1,false),(6,1,false),(7,1,false),(8,1,false)],zero := [.val (.int .i64 0), .val (.int .i64 0), .val (.int .i64 0), .val (.int .i64 0), .val (.int .i64 0), .val (.int .i64 0), .val (.int .i64 0), .nilsl, .nilsl],eqs := [] },
 some { size:=1,agg:=false,kind:=.func,zero := [.val .nilFunc],eqs := [] },
 some { size:=1,agg:=false,kind:=.slice 54 6 80 [.val (.int .i64 0), .val (.string { data:={ toList := [] } }), .val (.int .i64 0), .val (.int .i64 0), .val (.string { data:={ toList := [] } }), .nilsl],zero := [.nilsl],eqs := [] },
 some { size:=6,agg:=true,kind:=.struct [(0,1,false),(1,1,false),(2,1,false),(3,1,false),(4,1,false),(5,1,false)],zero := [.val (.int .i64 0), .val (.string { data:={ toList := [] } }), .val (.int .i64 0), .val (.int .i64 0), .val (.string { data:={ toList := [] } }), .nilsl],eqs := [] },
 some { size:=6,agg:=true,kind:=.struct [(0,1,false),(1,1,false),(2,1,false),(3,1,false),(4,1,false),(5,1,false)],zero := [.val (.int .i64 0), .val (.string { data:={ toList := [] } }), .val (.int .i64 0), .val (.int .i64 0), .val (.string { data:={ toList := [] } }), .nilsl],eqs := [] },
 some { size:=2,agg:=true,kind:=.struct [(0,1,false),(1,1,false)],zero := [.val (.int .i64 0), .val (.int .i64 0)],eqs := [.int, .int] },
 some { size:=2,agg:=true,kind:=.struct [(0,1,false),(1,1,false)],zero := [.val (.int .i64 0), .val (.int .i64 0)],eqs := [.int, .int] },
 none,
 some { size:=1,agg:=false,kind:=.func,zero := [.val .nilFunc],eqs := [] },
 some { size:=2,agg:=true,kind:=.struct [(0,1,false),(1,1,false)],zero := [.val (.int .i64 0), .val (.int .i64 0)],eqs := [.int, .int] },
 some { size:=2,agg:=true,kind:=.struct [(0,1,false),(1,1,false)],zero := [.val (.int .i64 0), .val (.int .i64 0)],eqs := [.int, .int] },
 some { size:=1,agg:=false,kind:=.func,zero := [.val .nilFunc],eqs := [] },
 some { size:=1,agg:=false,kind:=.func,zero := [.val .nilFunc],eqs := [] },
 some { size:=1,agg:=false,kind:=.func,zero := [.val .nilFunc],eqs := [] },
 some { size:=1,agg:=false,kind:=.func,zero := [.val .nilFunc],eqs := [] },
 none,
 some { size:=1,agg:=false,kind:=.func,zero := [.val .nilFunc],eqs := [] },
 some { size:=2,agg:=true,kind:=.struct [(0,1,false),(1,1,false)],zero := [.val (.bool false), .val (.bool false)],eqs := [.bool, .bool] },
 some { size:=2,agg:=true,kind:=.struct [(0,1,false),(1,1,false)],zero := [.val (.bool false), .val (.bool false)],eqs := [.bool, .bool] },
 some { size:=1,agg:=false,kind:=.func,zero := [.val .nilFunc],eqs := [] },
 some { size:=1,agg:=false,kind:=.func,zero := [.val .nilFunc],eqs := [] },
 some { size:=1,agg:=false,kind:=.func,zero := [.val .nilFunc],eqs := [] },
 some { size:=1,agg:=false,kind:=.func,zero := [.val .nilFunc],eqs := [] },
 some { size:=1,agg:=false,kind:=.func,zero := [.val .nilFunc],eqs := [] },
 some { size:=1,agg:=false,kind:=.func,zero := [.val .nilFunc],eqs := [] },
 some { size:=1,agg:=false,kind:=.slice 9 1 16 [.val (.string { data:={ toList := [] } })],zero := [.nilsl],eqs := [] },
 some { size:=5,agg:=true,kind:=.struct [(0,1,false),(1,1,false),(2,1,false),(3,1,false),(4,1,false)],zero := [.val (.string { data:={ toList := [] } }), .val (.int .i64 0), .val (.int .i64 0), .val (.int .i64 0), .nilsl],eqs := [] },
 some { size:=5,agg:=true,kind:=.struct [(0,1,false),(1,1,false),(2,1,false),(3,1,false),(4,1,false)],zero := [.val (.string { data:={ toList := [] } }), .val (.int .i64 0), .val (.int .i64 0), .val (.int .i64 0), .nilsl],eqs := [] },
 some { size:=4,agg:=true,kind:=.struct [(0,1,false),(1,1,false),(2,1,false),(3,1,false)],zero := [.val (.string { data:={ toList := [] } }), .val (.int .i64 0), .val (.int .i64 0), .val (.string { data:={ toList := [] } })],eqs := [.str, .int, .int, .str] },
 some { size:=4,agg:=true,kind:=.struct [(0,1,false),(1,1,false),(2,1,false),(3,1,false)],zero := [.val (.string { data:={ toList := [] } }), .val (.int .i64 0), .val (.int .i64 0), .val (.string { data:={ toList := [] } })],eqs := [.str, .int, .int, .str] },
 none,
 some { size:=1,agg:=false,kind:=.func,zero := [.val .nilFunc],eqs := [] },
 some { size:=1,agg:=false,kind:=.func,zero := [.val .nilFunc],eqs := [] },
 some { size:=1,agg:=false,kind:=.func,zero := [.val .nilFunc],eqs := [] },
 some { size:=1,agg:=false,kind:=.func,zero := [.val .nilFunc],eqs := [] },
 some { size:=1,agg:=false,kind:=.int .u32,zero := [.val (.int .u32 0)],eqs := [] },
 some { size:=1,agg:=false,kind:=.func,zero := [.val .nilFunc],eqs := [] },
 some { size:=1,agg:=false,kind:=.func,zero := [.val .nilFunc],eqs := [] },
 some { size:=1,agg:=false,kind:=.func,zero := [.val .nilFunc],eqs := [] },
 some { size:=1,agg:=false,kind:=.func,zero := [.val .nilFunc],eqs := [] },
 some { size:=1,agg:=false,kind:=.func,zero := [.val .nilFunc],eqs := [] },
 some { size:=1,agg:=false,kind:=.func,zero := [.val .nilFunc],eqs := [] },
 some { size:=1,agg:=false,kind:=.slice 5 1 1 [.val (.int .u8 0)],zero := [.nilsl],eqs := [] },
 some { size:=1,agg:=false,kind:=.func,zero := [.val .nilFunc],eqs := [] },
 some { size:=1,agg:=false,kind:=.func,zero := [.val .nilFunc],eqs := [] },
 some { size:=1,agg:=false,kind:=.func,zero := [.val .nilFunc],eqs := [] },
 some { size:=1,agg:=false,kind:=.func,zero := [.val .nilFunc],eqs := [] },
 some { size:=1,agg:=false,kind:=.func,zero := [.val .nilFunc],eqs := [] },
 some { size:=1,agg:=false,kind:=.func,zero := [.val .nilFunc],eqs := [] },
 some { size:=4,agg:=true,kind:=.struct [(0,1,false),(1,1,false),(2,1,false),(3,1,false)],zero := [.val (.int .i64 0), .val (.int .i64 0), .val (.int .i64 0), .nilsl],eqs := [] },
 some { size:=4,agg:=true,kind:=.struct [(0,1,false),(1,1,false),(2,1,false),(3,1,false)],zero := [.val (.int .i64 0), .val (.int .i64 0), .val (.int .i64 0), .nilsl],eqs := [] },
 none,
 some { size:=1,agg:=false,kind:=.func,zero := [.val .nilFunc],eqs := [] },
 some { size:=1,agg:=false,kind:=.func,zero := [.val .nilFunc],eqs := [] },
 some { size:=1,agg:=false,kind:=.func,zero := [.val .nilFunc],eqs := [] },
 none,
 some { size:=1,agg:=false,kind:=.func,zero := [.val .nilFunc],eqs := [] },
 none,
 some { size:=1,agg:=false,kind:=.func,zero := [.val .nilFunc],eqs := [] },
 some { size:=1,agg:=false,kind:=.func,zero := [.val .nilFunc],eqs := [] },
 some { size:=1,agg:=false,kind:=.func,zero := [.val .nilFunc],eqs := [] },
 some { size:=1,agg:=false,kind:=.func,zero := [.val .nilFunc],eqs := [] },
 some { size:=1,agg:=false,kind:=.func,zero := [.val .nilFunc],eqs := [] },
 some { size:=1,agg:=false,kind:=.func,zero := [.val .nilFunc],eqs := [] },
 some { size:=1,agg:=false,kind:=.func,zero := [.val .nilFunc],eqs := [] },
 some { size:=1,agg:=false,kind:=.func,zero := [.val .nilFunc],eqs := [] },
 some { size:=1,agg:=false,kind:=.func,zero := [.val .nilFunc],eqs := [] },
 some { size:=1,agg:=false,kind:=.func,zero := [.val .nilFunc],eqs := [] },
 some { size:=2,agg:=true,kind:=.struct [(0,1,false),(1,1,false)],zero := [.val (.int .i64 0), .val (.int .i64 0)],eqs := [.int, .int] },
 some { size:=2,agg:=true,kind:=.struct [(0,1,false),(1,1,false)],zero := [.val (.int .i64 0), .val (.int .i64 0)],eqs := [.int, .int] },
 some { size:=1,agg:=false,kind:=.func,zero := [.val .nilFunc],eqs := [] },
 some { size:=1,agg:=false,kind:=.func,zero := [.val .nilFunc],eqs := [] },
 some { size:=1,agg:=false,kind:=.func,zero := [.val .nilFunc],eqs := [] },
 some { size:=1,agg:=false,kind:=.func,zero := [.val .nilFunc],eqs := [] },
 some { size:=2,agg:=true,kind:=.struct [(0,1,false),(1,1,false)],zero := [.val (.int .i64 0), .val (.int .i64 0)],eqs := [.int, .int] },
 some { size:=1,agg:=false,kind:=.func,zero := [.val .nilFunc],eqs := [] },
 some { size:=3,agg:=true,kind:=.struct [(0,1,false),(1,1,false),(2,1,false)],zero := [.val (.int .i64 0), .val (.int .i64 0), .val (.int .i64 0)],eqs := [.int, .int, .int] },
 some { size:=3,agg:=true,kind:=.struct [(0,1,false),(1,1,false),(2,1,false)],zero := [.val (.int .i64 0), .val (.int .i64 0), .val (.int .i64 0)],eqs := [.int, .int, .int] },
 some { size:=1,agg:=false,kind:=.func,zero := [.val .nilFunc],eqs := [] },
 some { size:=1,agg:=false,kind:=.func,zero := [.val .nilFunc],eqs := [] },
 some { size:=1,agg:=false,kind:=.func,zero := [.val .nilFunc],eqs := [] },
 some { size:=1,agg:=false,kind:=.func,zero := [.val .nilFunc],eqs := [] },
 some { size:=1,agg:=false,kind:=.func,zero := [.val .nilFunc],eqs := [] },
 some { size:=2,agg:=true,kind:=.struct [(0,1,false),(1,1,false)],zero := [.val (.bool false), .val (.bool false)],eqs := [.bool, .bool] },
 some { size:=2,agg:=true,kind:=.struct [(0,1,false),(1,1,false)],zero := [.val (.bool false), .val (.bool false)],eqs := [.bool, .bool] },
 some { size:=1,agg:=false,kind:=.ptr,zero := [.val (.pointer none)],eqs := [] },
 some { size:=1,agg:=false,kind:=.map 3 214,zero := [.val (.map none)],eqs := [] },
 some { size:=1,agg:=false,kind:=.func,zero := [.val .nilFunc],eqs := [] },
 some { size:=14,agg:=true,kind:=.struct [(0,3,true),(3,10,true),(13,1,false)],zero:=([.val (.int .i64 0), .val (.int .i64 0), .nilsl, .val (.int .i64 0), .nilsl, .nilsl, .nilsl, .val (.int .i64 0), .val (.int .i64 0), .val (.int .i64 0), .val (.int .i64 0), .val (.int .i64 0), .nilsl, .val (.map none)]),eqs := [] },
 some { size:=14,agg:=true,kind:=.struct [(0,3,true),(3,10,true),(13,1,false)],zero:=([.val (.int .i64 0), .val (.int .i64 0), .nilsl, .val (.int .i64 0), .nilsl, .nilsl, .nilsl, .val (.int .i64 0), .val (.int .i64 0), .val (.int .i64 0), .val (.int .i64 0), .val (.int .i64 0), .nilsl, .val (.map none)]),eqs := [] },
 some { size:=1,agg:=false,kind:=.func,zero := [.val .nilFunc],eqs := [] },
 some { size:=1,agg:=false,kind:=.func,zero := [.val .nilFunc],eqs := [] },
 some { size:=2,agg:=true,kind:=.struct [(0,1,false),(1,1,false)],zero := [.val .nilFunc, .val (.int .i64 0)],eqs := [] },
 some { size:=2,agg:=true,kind:=.struct [(0,1,false),(1,1,false)],zero := [.val .nilFunc, .val (.int .i64 0)],eqs := [] },
 some { size:=1,agg:=false,kind:=.func,zero := [.val .nilFunc],eqs := [] },
 some { size:=2,agg:=true,kind:=.struct [(0,1,false),(1,1,false)],zero := [.val (.int .i64 0), .val (.int .i64 0)],eqs := [.int, .int] },
 some { size:=2,agg:=true,kind:=.struct [(0,1,false),(1,1,false)],zero := [.val (.int .i64 0), .val (.int .i64 0)],eqs := [.int, .int] },
 some { size:=1,agg:=false,kind:=.func,zero := [.val .nilFunc],eqs := [] },
 some { size:=1,agg:=false,kind:=.func,zero := [.val .nilFunc],eqs := [] },
 some { size:=1,agg:=false,kind:=.func,zero := [.val .nilFunc],eqs := [] },
 some { size:=1,agg:=false,kind:=.func,zero := [.val .nilFunc],eqs := [] },
 some { size:=1,agg:=false,kind:=.func,zero := [.val .nilFunc],eqs := [] },
 some { size:=1,agg:=false,kind:=.func,zero := [.val .nilFunc],eqs := [] },
 some { size:=1,agg:=false,kind:=.func,zero := [.val .nilFunc],eqs := [] },
 some { size:=1,agg:=false,kind:=.func,zero := [.val .nilFunc],eqs := [] },
 some { size:=1,agg:=false,kind:=.func,zero := [.val .nilFunc],eqs := [] },
 some { size:=8,agg:=true,kind:=.arr 2 100 4 true,zero := [.val (.int .i64 0), .val (.int .i64 0), .val (.int .i64 0), .nilsl, .val (.int .i64 0), .val (.int .i64 0), .val (.int .i64 0), .nilsl],eqs := [] },
 some { size:=1,agg:=false,kind:=.func,zero := [.val .nilFunc],eqs := [] },
 some { size:=1,agg:=false,kind:=.func,zero := [.val .nilFunc],eqs := [] },
 some { size:=1,agg:=false,kind:=.func,zero := [.val .nilFunc],eqs := [] },
 some { size:=1,agg:=false,kind:=.func,zero := [.val .nilFunc],eqs := [] },
 some { size:=1,agg:=false,kind:=.func,zero := [.val .nilFunc],eqs := [] },
 some { size:=1,agg:=false,kind:=.func,zero := [.val .nilFunc],eqs := [] },
 some { size:=1,agg:=false,kind:=.func,zero := [.val .nilFunc],eqs := [] },
 some { size:=1,agg:=false,kind:=.map 9 4,zero := [.val (.map none)],eqs := [] },
 some { size:=1,agg:=false,kind:=.func,zero := [.val .nilFunc],eqs := [] },
 some { size:=1,agg:=false,kind:=.func,zero := [.val .nilFunc],eqs := [] },
 some { size:=4,agg:=true,kind:=.struct [(0,2,true),(2,1,false),(3,1,false)],zero := [.nilsl, .nilsl, .val (.bool false), .val (.int .i64 0)],eqs := [] },
 some { size:=4,agg:=true,kind:=.struct [(0,2,true),(2,1,false),(3,1,false)],zero := [.nilsl, .nilsl, .val (.bool false), .val (.int .i64 0)],eqs := [] },
 some { size:=1,agg:=false,kind:=.func,zero := [.val .nilFunc],eqs := [] },
 some { size:=2,agg:=true,kind:=.struct [(0,1,false),(1,1,false)],zero := [.nilsl, .val (.int .i64 0)],eqs := [] },
 some { size:=2,agg:=true,kind:=.struct [(0,1,false),(1,1,false)],zero := [.nilsl, .val (.int .i64 0)],eqs := [] },
 some { size:=1,agg:=false,kind:=.func,zero := [.val .nilFunc],eqs := [] },
 some { size:=1,agg:=false,kind:=.func,zero := [.val .nilFunc],eqs := [] },
 some { size:=1,agg:=false,kind:=.func,zero := [.val .nilFunc],eqs := [] },
 some { size:=1,agg:=false,kind:=.func,zero := [.val .nilFunc],eqs := [] },
 none,
 some { size:=1,agg:=false,kind:=.func,zero := [.val .nilFunc],eqs := [] },
 none,
 some { size:=1,agg:=false,kind:=.func,zero := [.val .nilFunc],eqs := [] },
 some { size:=1,agg:=false,kind:=.ptr,zero := [.val (.pointer none)],eqs := [] },
 some { size:=3,agg:=true,kind:=.struct [(0,1,false),(1,1,false),(2,1,false)],zero := [.nilsl, .nilsl, .val (.bool false)],eqs := [] },
 some { size:=3,agg:=true,kind:=.struct [(0,1,false),(1,1,false),(2,1,false)],zero := [.nilsl, .nilsl, .val (.bool false)],eqs := [] },
 some { size:=1,agg:=false,kind:=.func,zero := [.val .nilFunc],eqs := [] },
 some { size:=1,agg:=false,kind:=.func,zero := [.val .nilFunc],eqs := [] },
 some { size:=1,agg:=false,kind:=.func,zero := [.val .nilFunc],eqs := [] },
 some { size:=1,agg:=false,kind:=.func,zero := [.val .nilFunc],eqs := [] },
 some { size:=1,agg:=false,kind:=.func,zero := [.val .nilFunc],eqs := [] },
 some { size:=1,agg:=false,kind:=.func,zero := [.val .nilFunc],eqs := [] },
 some { size:=1,agg:=false,kind:=.func,zero := [.val .nilFunc],eqs := [] },
 some { size:=1,agg:=false,kind:=.func,zero := [.val .nilFunc],eqs := [] },
 some { size:=1,agg:=false,kind:=.func,zero := [.val .nilFunc],eqs := [] },
 some { size:=1,agg:=false,kind:=.func,zero := [.val .nilFunc],eqs := [] },
 none,
 some { size:=1,agg:=false,kind:=.func,zero := [.val .nilFunc],eqs := [] },
 some { size:=1,agg:=false,kind:=.func,zero := [.val .nilFunc],eqs := [] },
 some { size:=5,agg:=true,kind:=.struct [(0,4,true),(4,1,false)],zero := [.val (.string { data:={ toList := [] } }), .val (.int .i64 0), .val (.int .i64 0), .val (.string { data:={ toList := [] } }), .val (.bool false)],eqs := [.str, .int, .int, .str, .bool] },
 some { size:=5,agg:=true,kind:=.struct [(0,4,true),(4,1,false)],zero := [.val (.string { data:={ toList := [] } }), .val (.int .i64 0), .val (.int .i64 0), .val (.string { data:={ toList := [] } }), .val (.bool false)],eqs := [.str, .int, .int, .str, .bool] },
 some { size:=1,agg:=false,kind:=.func,zero := [.val .nilFunc],eqs := [] },
 some { size:=1,agg:=false,kind:=.func,zero := [.val .nilFunc],eqs := [] },
 some { size:=1,agg:=false,kind:=.func,zero := [.val .nilFunc],eqs := [] },
 some { size:=1,agg:=false,kind:=.func,zero := [.val .nilFunc],eqs := [] },
 some { size:=1,agg:=false,kind:=.func,zero := [.val .nilFunc],eqs := [] },
 some { size:=1,agg:=false,kind:=.func,zero := [.val .nilFunc],eqs := [] },
 some { size:=1,agg:=false,kind:=.func,zero := [.val .nilFunc],eqs := [] },
 some { size:=1,agg:=false,kind:=.func,zero := [.val .nilFunc],eqs := [] },
 some { size:=1,agg:=false,kind:=.func,zero := [.val .nilFunc],eqs := [] },
 some { size:=1,agg:=false,kind:=.func,zero := [.val .nilFunc],eqs := [] },
 some { size:=1,agg:=false,kind:=.func,zero := [.val .nilFunc],eqs := [] },
 some { size:=1,agg:=false,kind:=.func,zero := [.val .nilFunc],eqs := [] },
 some { size:=1,agg:=false,kind:=.func,zero := [.val .nilFunc],eqs := [] },
 some { size:=1,agg:=false,kind:=.func,zero := [.val .nilFunc],eqs := [] },
 some { size:=1,agg:=false,kind:=.func,zero := [.val .nilFunc],eqs := [] },
 some { size:=1,agg:=false,kind:=.func,zero := [.val .nilFunc],eqs := [] },
 some { size:=1,agg:=false,kind:=.func,zero := [.val .nilFunc],eqs := [] },
 some { size:=1,agg:=false,kind:=.slice 134 2 2 [.val (.bool false), .val (.bool false)],zero := [.nilsl],eqs := [] },
 some { size:=1,agg:=false,kind:=.func,zero := [.val .nilFunc],eqs := [] },
 some { size:=1,agg:=false,kind:=.func,zero := [.val .nilFunc],eqs := [] },
 some { size:=1,agg:=false,kind:=.func,zero := [.val .nilFunc],eqs := [] },
 some { size:=1,agg:=false,kind:=.slice 143 2 16 [.val .nilFunc, .val (.int .i64 0)],zero := [.nilsl],eqs := [] },
 some { size:=1,agg:=false,kind:=.func,zero := [.val .nilFunc],eqs := [] },
 some { size:=1,agg:=false,kind:=.func,zero := [.val .nilFunc],eqs := [] },
 some { size:=1,agg:=false,kind:=.func,zero := [.val .nilFunc],eqs := [] },
 some { size:=1,agg:=false,kind:=.func,zero := [.val .nilFunc],eqs := [] },
 some { size:=1,agg:=false,kind:=.func,zero := [.val .nilFunc],eqs := [] },
 some { size:=1,agg:=false,kind:=.map 3 192,zero := [.val (.map none)],eqs := [] },
 some { size:=1,agg:=false,kind:=.func,zero := [.val .nilFunc],eqs := [] },
 some { size:=1,agg:=false,kind:=.slice 79 4 48 [.val (.string { data:={ toList := [] } }), .val (.int .i64 0), .val (.int .i64 0), .val (.string { data:={ toList := [] } })],zero := [.nilsl],eqs := [] },
 some { size:=1,agg:=false,kind:=.slice 75 1 24 [.nilsl],zero := [.nilsl],eqs := [] },
 some { size:=1,agg:=false,kind:=.func,zero := [.val .nilFunc],eqs := [] },
 some { size:=1,agg:=false,kind:=.func,zero := [.val .nilFunc],eqs := [] },
 some { size:=1,agg:=false,kind:=.func,zero := [.val .nilFunc],eqs := [] },
 some { size:=1,agg:=false,kind:=.func,zero := [.val .nilFunc],eqs := [] },
 some { size:=1,agg:=false,kind:=.func,zero := [.val .nilFunc],eqs := [] },
 some { size:=1,agg:=false,kind:=.func,zero := [.val .nilFunc],eqs := [] },
 some { size:=1,agg:=false,kind:=.func,zero := [.val .nilFunc],eqs := [] },
 some { size:=1,agg:=false,kind:=.func,zero := [.val .nilFunc],eqs := [] },
 some { size:=1,agg:=false,kind:=.func,zero := [.val .nilFunc],eqs := [] },
 some { size:=1,agg:=false,kind:=.func,zero := [.val .nilFunc],eqs := [] },
 some { size:=1,agg:=false,kind:=.func,zero := [.val .nilFunc],eqs := [] },
 some { size:=1,agg:=false,kind:=.func,zero := [.val .nilFunc],eqs := [] },
 some { size:=1,agg:=false,kind:=.func,zero := [.val .nilFunc],eqs := [] },
 some { size:=1,agg:=false,kind:=.func,zero := [.val .nilFunc],eqs := [] },
 some { size:=1,agg:=false,kind:=.func,zero := [.val .nilFunc],eqs := [] },
 none,
 some { size:=1,agg:=false,kind:=.func,zero := [.val .nilFunc],eqs := [] },
 none,
 none,
 some { size:=1,agg:=false,kind:=.func,zero := [.val .nilFunc],eqs := [] },
 some { size:=1,agg:=false,kind:=.func,zero := [.val .nilFunc],eqs := [] },
 some { size:=1,agg:=false,kind:=.func,zero := [.val .nilFunc],eqs := [] },
 some { size:=1,agg:=false,kind:=.func,zero := [.val .nilFunc],eqs := [] },
 some { size:=1,agg:=false,kind:=.func,zero := [.val .nilFunc],eqs := [] },
 some { size:=1,agg:=false,kind:=.func,zero := [.val .nilFunc],eqs := [] },
 some { size:=1,agg:=false,kind:=.func,zero := [.val .nilFunc],eqs := [] },
 none,
 some { size:=1,agg:=false,kind:=.func,zero := [.val .nilFunc],eqs := [] },
 some { size:=1,agg:=false,kind:=.func,zero := [.val .nilFunc],eqs := [] },
 none,
 some { size:=1,agg:=false,kind:=.map 3 131,zero := [.val (.map none)],eqs := [] },
 some { size:=1,agg:=false,kind:=.func,zero := [.val .nilFunc],eqs := [] },
 some { size:=1,agg:=false,kind:=.int .u64,zero := [.val (.int .u64 0)],eqs := [] },
 some { size:=1,agg:=false,kind:=.int .u64,zero := [.val (.int .u64 0)],eqs := [] },
 some { size:=1,agg:=false,kind:=.func,zero := [.val .nilFunc],eqs := [] },
 some { size:=1,agg:=false,kind:=.func,zero := [.val .nilFunc],eqs := [] },
 some { size:=1,agg:=false,kind:=.func,zero := [.val .nilFunc],eqs := [] },
 some { size:=2,agg:=true,kind:=.struct [(0,1,false),(1,1,false)],zero := [.val .nilFunc, .val .nilFunc],eqs := [] },
 some { size:=2,agg:=true,kind:=.struct [(0,1,false),(1,1,false)],zero := [.val .nilFunc, .val .nilFunc],eqs := [] },
 some { size:=1,agg:=false,kind:=.func,zero := [.val .nilFunc],eqs := [] },
 some { size:=1,agg:=false,kind:=.func,zero := [.val .nilFunc],eqs := [] },
 some { size:=1,agg:=false,kind:=.func,zero := [.val .nilFunc],eqs := [] },
 some { size:=1,agg:=false,kind:=.func,zero := [.val .nilFunc],eqs := [] },
 some { size:=1,agg:=false,kind:=.func,zero := [.val .nilFunc],eqs := [] },
 some { size:=1,agg:=false,kind:=.func,zero := [.val .nilFunc],eqs := [] },
 some { size:=1,agg:=false,kind:=.func,zero := [.val .nilFunc],eqs := [] },
 some { size:=1,agg:=false,kind:=.func,zero := [.val .nilFunc],eqs := [] },
 some { size:=1,agg:=false,kind:=.func,zero := [.val .nilFunc],eqs := [] },
 some { size:=1,agg:=false,kind:=.int .i64,zero := [.val (.int .i64 0)],eqs := [] },
 none,
 some { size:=1,agg:=false,kind:=.func,zero := [.val .nilFunc],eqs := [] },
 some { size:=1,agg:=false,kind:=.func,zero := [.val .nilFunc],eqs := [] },
 some { size:=1,agg:=false,kind:=.func,zero := [.val .nilFunc],eqs := [] },
 some { size:=1,agg:=false,kind:=.func,zero := [.val .nilFunc],eqs := [] },
 some { size:=1,agg:=false,kind:=.func,zero := [.val .nilFunc],eqs := [] },
 some { size:=1,agg:=false,kind:=.func,zero := [.val .nilFunc],eqs := [] },
 some { size:=1,agg:=false,kind:=.func,zero := [.val .nilFunc],eqs := [] },
 some { size:=1,agg:=false,kind:=.func,zero := [.val .nilFunc],eqs := [] },
 some { size:=1,agg:=false,kind:=.int .u64,zero := [.val (.int .u64 0)],eqs := [] },
 some { size:=1,agg:=false,kind:=.func,zero := [.val .nilFunc],eqs := [] },
 some { size:=1,agg:=false,kind:=.func,zero := [.val .nilFunc],eqs := [] },
 some { size:=1,agg:=false,kind:=.func,zero := [.val .nilFunc],eqs := [] },
 some { size:=1,agg:=false,kind:=.ptr,zero := [.val (.pointer none)],eqs := [] },
 some { size:=1,agg:=false,kind:=.func,zero := [.val .nilFunc],eqs := [] },
 some { size:=1,agg:=false,kind:=.ptr,zero := [.val (.pointer none)],eqs := [] },
 none,
 some { size:=1,agg:=false,kind:=.func,zero := [.val .nilFunc],eqs := [] },
 some { size:=1,agg:=false,kind:=.func,zero := [.val .nilFunc],eqs := [] },
 some { size:=4,agg:=true,kind:=.struct [(0,1,false),(1,1,false),(2,1,false),(3,1,false)],zero := [.val (.pointer none), .val (.pointer none), .val (.pointer none), .val (.string { data:={ toList := [] } })],eqs := [] },
 some { size:=4,agg:=true,kind:=.struct [(0,1,false),(1,1,false),(2,1,false),(3,1,false)],zero := [.val (.pointer none), .val (.pointer none), .val (.pointer none), .val (.string { data:={ toList := [] } })],eqs := [] },
 some { size:=0,agg:=true,kind:=.arr 0 16 1 false,zero := [],eqs := [] },
 some { size:=0,agg:=true,kind:=.struct [(0,0,true)],zero := [],eqs := [] },
 some { size:=0,agg:=true,kind:=.struct [(0,0,true)],zero := [],eqs := [] },
 some { size:=1,agg:=false,kind:=.int .u8,zero := [.val (.int .u8 0)],eqs := [] },
 some { size:=1,agg:=false,kind:=.int .u8,zero := [.val (.int .u8 0)],eqs := [] },
 some { size:=1,agg:=false,kind:=.func,zero := [.val .nilFunc],eqs := [] },
 some { size:=1,agg:=false,kind:=.ptr,zero := [.val (.pointer none)],eqs := [] },
 some { size:=1,agg:=false,kind:=.int .i32,zero := [.val (.int .i32 0)],eqs := [] },
 some { size:=1,agg:=false,kind:=.int .i32,zero := [.val (.int .i32 0)],eqs := [] },
 some { size:=11,agg:=true,kind:=.struct [(0,1,false),(1,1,false),(2,1,false),(3,1,false),(4,1,false),(5,1,false),(6,1,false),(7,1,false),(8,1,false),(9,1,false),(10,1,false)],zero := [.val (.int .u64 0), .val (.int .u64 0), .val (.int .u32 0), .val (.int .u8 0), .val (.int .u8 0), .val (.int .u8 0), .val (.int .u8 0), .val .nilFunc, .val (.pointer none), .val (.int .i32 0), .val (.int .i32 0)],eqs := [] },
 some { size:=11,agg:=true,kind:=.struct [(0,1,false),(1,1,false),(2,1,false),(3,1,false),(4,1,false),(5,1,false),(6,1,false),(7,1,false),(8,1,false),(9,1,false),(10,1,false)],zero := [.val (.int .u64 0), .val (.int .u64 0), .val (.int .u32 0), .val (.int .u8 0), .val (.int .u8 0), .val (.int .u8 0), .val (.int .u8 0), .val .nilFunc, .val (.pointer none), .val (.int .i32 0), .val (.int .i32 0)],eqs := [] },
 some { size:=1,agg:=false,kind:=.other,zero := [.val (.pointer none)],eqs := [] }]
theorem typeTab_ok:typeTab=tabOf Tryz.prog:=by kernel_rfl
end
section
open Go.RowKit
variable {P:Program} {b:Frame} {a:Act} {k:List Item} {cs:List Frame} {w:World}
theorem stepR_scope {c:Code} : step P (lone (b.atR a (.code (.scope c) :: k)) cs w) = .next (lone (b.atR a (.code c :: .inScope c :: k)) cs w):=
 step_lone_go (by simp [stepG,stepG.exec,Frame.atR])
theorem stepR_inScope {c:Code} : step P (lone (b.atR a (.inScope c :: k)) cs w) = .next (lone (b.atR a k) cs w):=
 step_lone_go (by simp [stepG,stepG.exec,Frame.atR])
theorem wpIn_scope {F:Fence} {n:Nat} {Q:Exit→Act→World→Prop} {c:Code} (h:c.wpIn F n P (fun e a w=>match e with | .goto _=>False|e=>Q e a w) a w):(Code.scope c).wpIn F n P Q a w:=by
 intro b k cs hro hb hr
 have h0:(lone (b.atR a (.code (.scope c) :: k)) cs w).fenced P F:=fenced_calm hb hr rfl
 obtain ⟨e,a₁,w₁,hq,harr⟩:=h b (.inScope c :: k) cs hro hb hr
 cases e with
 |normal=>exact ⟨.normal,a₁,w₁,hq, .head h0 stepR_scope (StepsIn.trans harr (.one (fenced_calm hb hr rfl) stepR_inScope))⟩
 |exit id=>
  have hx:exitTo id (.inScope c :: k)=exitTo id k:=by simp [exitTo]
  exact ⟨.exit id,a₁,w₁,hq,fun k' hk=>.head h0 stepR_scope (harr.1 k' (by rw [hx];exact hk)),
   fun hr' hk=>let ⟨k₁,h1,h2⟩:=harr.2 hr' (by rw [hx];exact hk); ⟨k₁,h1, .head h0 stepR_scope h2⟩⟩
 |goto l=>exact hq.elim
 |ret=>exact ⟨_,a₁,w₁,hq, .of_steps (.one h0 stepR_scope) harr⟩
 |panic ch=>exact ⟨_,a₁,w₁,hq, .of_steps (.one h0 stepR_scope) harr⟩
 |outgrown=>exact ⟨_,a₁,w₁,hq, .of_steps (.one h0 stepR_scope) harr⟩
end
section
open Go.RowKit
variable {P:Program} {M:Nat} {Q:Exit→PS→Prop} {σ:PS}
def ScopeP (Q:Exit→PS→Prop):Exit→PS→Prop
 | .goto _,_=>False
 |e,σ=>Q e σ
theorem PW.scope {c:Code} (h:PW P M c (ScopeP Q) σ):PW P M (.scope c) Q σ:=by
 intro Φ0 W a w hr
 refine wpIn_scope (wpIn_mono (h Φ0 W a w hr) ?_)
 rintro e a' w' ⟨σ',Φ1,W1,h1,h2⟩
 cases e with
 |goto i=>exact h1
 |_=>exact ⟨σ',Φ1,W1,h1,h2⟩
theorem scopeP_ret (h:Q .ret σ):ScopeP Q .ret σ:=h
end
end Go.Proofs.YtoamkpgaaanafaaGreat
