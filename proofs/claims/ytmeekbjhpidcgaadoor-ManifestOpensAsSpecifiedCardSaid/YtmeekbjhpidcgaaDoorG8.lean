/- Out of: Wire5. -/
import Derived.Test.YtmeekbjhpidcgaaDoorG6
namespace Go.Proofs.YtmeekbjhpidcgaaDoor
set_option linter.unusedSimpArgs false
set_option linter.unusedVariables false
set_option linter.unnecessarySimpa false
section
open Go.RowKit
def MadeIntsN (w:World) (r:List Int×Int×Int) (e:Ending) (w' : World):Prop:=
 ∃v,e = .returned (.tuple #[v, .int .i64 r.2.1, .int .i64 r.2.2])∧Own w.heap.size 3 w' v (r.1.map (Value.int .i64))∧Below w.heap.size w w'
theorem MadeIntsN.mk {w w' : World} {r:List Int×Int×Int} {l:List Int} {x y:Int} {v:Value} (h:r=(l,x,y)) (ho:Own w.heap.size 3 w' v (l.map (Value.int .i64))) (hb:Below w.heap.size w w') :
  MadeIntsN w r (.returned (.tuple #[v, .int .i64 x, .int .i64 y])) w':=by
 subst h;exact ⟨v,rfl,ho,hb⟩
theorem Bytes.dropAt {w:World} {bs:List Int} {cap b off m:Nat} (hcap:bs.length≤cap) (hm:cap≤maxLen) (hc:∀(j:Nat) (x:Int),bs[j]? = some x→w.cell? ⟨b,off+j,none⟩=some (.int .u8 x)) (hle:m≤bs.length) :
  Bytes w (.slice (some ⟨b,off+m,none⟩) (bs.length - m) (cap - m)) (bs.drop m):=by
 refine ⟨_,cap - m,b,off+m,by simp,by simp;omega,by omega,fun _=>rfl,fun j u hu=>?_⟩
 rw [List.getElem?_map,List.getElem?_drop] at hu
 obtain ⟨x,hx,rfl⟩:=Option.map_eq_some_iff.1 hu
 rw [Nat.add_assoc];exact hc _ _ hx
theorem Bytes.dropEnd {w:World} {bs:List Int} {a:Option Addr} {c m:Nat} (hm:m=bs.length) (hc:c≤maxLen) :
  Bytes w (.slice a 0 c) (bs.drop m):=by
 subst hm
 rw [List.drop_length]
 exact ⟨a,c,0,0,rfl,by simp,hc,fun h=>by simp at h,fun j u hu=>by simp at hu⟩
theorem Byte.drop {bs:List Int} (h:Byte bs) (m:Nat):Byte (bs.drop m):=fun k c hk=>h (m+k) c (by rw [←List.getElem?_drop];exact hk)
set_option maxRecDepth 100000 in
set_option maxHeartbeats 1000000 in
theorem wireGet (v:Value) (bs:List Int) (w:World) (hv:Bytes w v bs) (hby:Byte bs) (hl:bs.length≤1000000000):Calls Tryd.prog 90 #[v, .int .i64 1, .func (.func 89) #[] #[]] w (MadeIntsN w (getInts bs)):=by
 obtain ⟨a,cap,b,off,hvv,hcap,hm,ha,hc⟩:=hv.open
 have ok:=Hid.mk (lenL_ok bs 1 hby.all)
 obtain ⟨n,u,er,hr⟩:∃n u er,lenL bs 1=(n,u,er):=⟨_,_,_,rfl⟩
 have L:Hid (getInts bs=if er≠0 then ([],0,er) else andThen [] u (getN n.toNat (bs.drop u.toNat))):=by
  rw [Hid,getInts,hr]
 have HR:=Hid.mk hr
 rw [hr] at ok
 clear hr
 subst hvv
 by_cases g:er=0
 ·obtain rfl:=g
  obtain ⟨o1,o2,o3,o4⟩:=ok.out rfl
  simp only [Int.ediv_one] at o1 o2 o3 o4
  obtain ⟨N,rfl⟩:∃N:Nat,n=N:=⟨n.toNat,by omega⟩
  obtain ⟨U,rfl⟩:∃N:Nat,u=N:=⟨u.toNat,by omega⟩
  have L2:Hid (getInts bs=andThen [] U (getN N (bs.drop U))):=by rw [Hid,L.out,if_neg (by simp)];rfl
  obtain rfl:=ha (by omega)
  clear ha L ok
  go_enter Tryd.func90,Tryd.ntmps90
  go_wp2_with (go_at_call 70;refine (wireLength _ bs _ _ hv hby (by omega) (by omega)).mono ?_;rintro e w' ⟨rfl,k,rfl⟩;rw [HR.out])
  go_loopw [10,12,27] (fun p o i wr=>∃(j m:Nat) (out:List Int),j≤N∧U≤m∧m≤bs.length∧out.length=j∧i = .int .i64 j∧p = .int .i64 m∧Own w.heap.size 3 wr o (out.map (Value.int .i64))∧Below w.heap.size w wr∧Hid (getInts bs=andThen out m (getN (N - j) (bs.drop m)))) (fun _ _ i _=>N - (intOf i).toNat)
  case atStart=>exact ⟨0,U,[],by omega,by omega,by omega,rfl,rfl,rfl,Own.nil _ _ _,(Still.one _ _).below _,L2⟩
  case round=>
   obtain ⟨j,m,out,hj,hUm,hmb,ho,rfl,rfl,hown,hb,hh⟩:=hrel
   have HB:=Hid.mk hb
   have hb2:=hb.size
   have HO:=Hid.mk ho
   clear hb ho
   by_cases hlt:j < N
   ·have hv' : Bytes wr (.slice (some (if cap=m then ⟨b,off,none⟩ else ⟨b,off+m,none⟩)) (bs.length - m) (cap - m)) (bs.drop m):=by
     split
     ·rw [show bs.length - m=0 by omega];exact Bytes.dropEnd (by omega) (by omega)
     ·exact Bytes.dropAt hcap hm (fun j x hx=>below_cell HB.out (hc.out j x hx)) hmb
    have ok:=Hid.mk (getI_ok (bs.drop m) (hby.drop m).all)
    obtain ⟨x,us,e2,hr2⟩:∃x us e2,getI (bs.drop m)=(x,us,e2):=⟨_,_,_,rfl⟩
    have HV:=Hid.mk hv'
    have HR2:=Hid.mk hr2
    have NX:Hid (N - j=(N - (j+1))+1):=by rw [Hid];omega
    rw [hr2] at ok
    clear hr2 hv'
    by_cases g2:e2=0
    ·obtain rfl:=g2
     obtain ⟨p1,p2,p3,p4⟩:=ok.out rfl
     simp only [List.length_drop] at p1 p2 p3 p4
     obtain ⟨us,rfl⟩:∃N:Nat,us=N:=⟨us.toNat,by omega⟩
     have ST:Hid (getInts bs=andThen (out ++ [x]) (m+us) (getN (N - (j+1)) (bs.drop (m+us)))):=by
      rw [Hid,hh.out,NX.out,andThen_step out m _ _ _ HR2.out rfl];simp
     have LO:out.length≤N:=by rw [HO.out];omega
     clear ok hh NX
     have ec:¬cap=m:=by omega
     all_goals have HV':=HV.out
     all_goals first|rw [if_pos ec] at HV' | rw [if_neg ec] at HV'
     all_goals have HVV:=Hid.mk HV'
     all_goals clear HV'
     all_goals
      go_wp2_with (first|(at_builtin;refine wp_push (.tmp 41) (.tmp 43) 22 _ 3 8 _ elemInt rfl rfl Tryd.underlying22 w.heap.size _ (.int .i64 x) _ rfl hown.drewN rfl rfl (by simp [maxLen];omega) (by simp;omega) hb2 ?_;intro v' w' hown' hb')|(go_at_call 89;refine (wireGetInt _ (bs.drop m) _ (by first|exact HVV.out|(have h:=HVV.out;simp [ec] at h ⊢; exact h)) (hby.drop m)).mono ?_;rintro e w' ⟨rfl,q,rfl⟩;rw [HR2.out]))
      go_roundw
      case rel=>exact ⟨j+1,m+us,out ++ [x],by omega,by omega,by omega,by simp [HO.out],by go_num,by go_num,by simpa using hown',(HB.out.trans ((Still.one _ _).below _)).trans hb',ST⟩
      case measure=>simp [intOf];omega
    ·have g2' : (e2 == 0)=false:=by simpa using g2
     have ST:Hid (getInts bs=([],0,e2)):=by
      rw [Hid,hh.out,NX.out,andThen_err out m _ _ _ HR2.out g2]
     clear ok hh NX
     by_cases ec:cap=m
     all_goals have HV':=HV.out
     all_goals first|rw [if_pos ec] at HV' | rw [if_neg ec] at HV'
     all_goals have HVV:=Hid.mk HV'
     all_goals clear HV'
     all_goals
      go_wp2_with (go_at_call 89;refine (wireGetInt _ (bs.drop m) _ (by first|exact HVV.out|(have h:=HVV.out;simp [ec] at h ⊢; exact h)) (hby.drop m)).mono ?_;rintro e w' ⟨rfl,q,rfl⟩;rw [HR2.out])
      go_ret3
      exact MadeIntsN.mk ST.out (Own.nil _ _ _) (HB.out.trans ((Still.one _ _).below _))
   ·have DN:Hid (getInts bs=(out,(m:Int),0)):=by
     rw [Hid,hh.out,show N - j=0 by omega,andThen_done]
    go_wp2
    go_ret3
    exact MadeIntsN.mk DN.out hown HB.out
 ·have g' : (er == 0)=false:=by simpa using g
  have L2:Hid (getInts bs=([],0,er)):=by rw [Hid,L.out,if_pos g]
  go_enter Tryd.func90,Tryd.ntmps90
  go_wp2_with (go_at_call 70;refine (wireLength _ bs _ _ hv hby (by omega) (by omega)).mono ?_;rintro e w' ⟨rfl,k,rfl⟩;rw [HR.out])
  go_ret3
  exact MadeIntsN.mk L2.out (Own.nil _ _ _) ((Still.one _ _).below _)
theorem wireGetInts (v:Value) (bs:List Int) (w:World) (hv:Bytes w v bs) (hby:Byte bs) (hl:bs.length≤1000000000):Calls Tryd.prog 71 #[v] w (MadeIntsN w (getInts bs)):=by
 go_enter Tryd.func71,Tryd.ntmps71
 go_wp2_with (go_at_call 90;refine (wireGet _ bs _ hv hby hl).mono ?_;rintro e w1 ⟨v1,rfl,ho1,hb1⟩)
 go_ret3
 exact ⟨_,rfl,ho1,hb1⟩
end
end Go.Proofs.YtmeekbjhpidcgaaDoor
