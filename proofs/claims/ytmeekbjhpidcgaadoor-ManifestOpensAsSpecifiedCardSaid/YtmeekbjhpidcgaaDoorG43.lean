/- Out of: Ts. -/
import Derived.Test.YtmeekbjhpidcgaaDoorG40
import Derived.Test.YtmeekbjhpidcgaaDoorG41
namespace Go.Proofs.YtmeekbjhpidcgaaDoor
set_option linter.unusedSimpArgs false
set_option linter.unusedVariables false
set_option linter.unnecessarySimpa false
section
open Go.RowKit
theorem clearL_in {n:Nat} {at_:Nat} {l:List Int} (hl:∀s∈l,0≤s∧s≤3) (hn:at_+1024≤n):InD n (clearL at_ l):=by
 intro p hp
 obtain ⟨s,hs,rfl⟩:=List.mem_map.1 hp
 have:=hl s hs
 simp only;omega
theorem OkD.clr {n k:Nat} {D:DM} (h:OkD n k D) {at_:Nat} {l:List Int} (hl:∀s∈l,0≤s∧s≤3) (hn:at_+1024≤n) (hk:k+l.length≤100000000):OkD n (k+l.length+1) (D.clr at_ l)∧(D.clr at_ l).op = []:=by
 have hcl:(clearL at_ l).length=l.length:=by simp [clearL]
 obtain ⟨o1,-⟩:=OkD.puts (clearL at_ l) h (clearL_in hl hn) (by omega)
 obtain ⟨-,s2,-,s4⟩:=o1.sync_ok (by omega)
 rw [hcl] at s2
 exact ⟨s2,s4⟩
theorem blksL_in {n at_ slot:Nat} {S:List Int} (hs:slot≤3) (hn:at_+1024≤n) (hS:S.length≤16384):InD n (blksL (at_+slot * 256) S)∧(blksL (at_+slot * 256) S).length≤256:=by
 refine ⟨?_,by rw [blksL,List.length_map,List.length_range];omega⟩
 intro p hp
 obtain ⟨j,hj,rfl⟩:=List.mem_map.1 hp
 rw [List.mem_range] at hj
 simp only;omega
theorem OkD.wr {n k:Nat} {D:DM} (h:OkD n k D) {at_ slot:Nat} {m:PMan} (hs:slot≤3) (hn:at_+1024≤n) (hS:(slotM hfT m).length≤16384) (hk:k+256≤100000000):OkD n (k+256) (D.wr at_ slot m):=by
 obtain ⟨i1,i2⟩:=blksL_in (at_:=at_) hs hn hS
 exact (OkD.puts _ h i1 (by omega)).1.mono (by omega)
def DM.turnF (D:DM) (at_ f:Nat) (m:PMan):DM:=(((D.clr at_ [(f:Int),(f:Int)+1]).wr at_ f m).wr at_ (f+1) m).sync.2
def DM.turn (D:DM) (at_:Nat) (m:PMan):DM:=D.turnF at_ (firstI m.ver).toNat m
set_option maxRecDepth 10000 in
set_option maxHeartbeats 2000000 in
theorem tc_Turn1 {n k:Nat} {D:DM} (h:OkD n k D) (at_:Nat) (now m:PMan) (hn:at_+1024≤n) (hn2:n≤1000000000) (hk:k+1000≤100000000) (hv:m.ver=now.ver+1) (hv0:0≤now.ver∧now.ver < 1000000000) (hc:checkM 2 3 m=0) (hm:EncM m) (hml:(slotM hfT m).length≤16384) (hcl:CloM m):HCalls Tryd.prog 10 [.ptr 1000004 0,pints m.notes,prefs m.refs] (tG 1000004 1000001 1000002 1000003 at_ now D) (dMs 1000003 D) (pint 0) (tG 1000004 1000001 1000002 1000003 at_ m (D.turn at_ m)) (dMs 1000003 (D.turn at_ m)):=by
 have hlr:Low (prefs now.refs):=(low_prefs _).2 trivial
 have hlt:Low (pints now.notes):=(low_pints _).2 trivial
 have hmr:Low (prefs m.refs):=(low_prefs _).2 trivial
 have hmt:Low (pints m.notes):=(low_pints _).2 trivial
 refine th_of_pw Tryd.func10 rfl rfl (by intro p hp;rcases List.mem_cons.1 hp with rfl|hp;exact .ptr _ _ (by simp);rcases List.mem_cons.1 hp with rfl|hp;exact hmt.lowI;rcases List.mem_cons.1 hp with rfl|hp;exact hmr.lowI;cases hp) (by simp [pints,prefs,PV.ownB]) (Nat.le_of_ble_eq_true rfl) (Low.val _).lowI ?_
 have hck:=pw_mCheck m (by have:=hcl.1;omega) (by have:=hcl.2;omega)
 rw [hc] at hck
 have hclo:=pw_clone m hcl
 have hfi:=pw_first m.ver (by omega) (by omega)
 have hf01:0≤firstI m.ver∧firstI m.ver+1≤3:=by unfold firstI;omega
 have hfn:((firstI m.ver).toNat:Int)=firstI m.ver:=by omega
 unfold DM.turn DM.turnF
 generalize hF:(firstI m.ver).toNat=f at *
 have hsl:∀s ∈ [(f:Int),(f:Int)+1],0≤s∧s≤3:=by
  intro s hs
  simp only [List.mem_cons,List.not_mem_nil,or_false] at hs
  omega
 rw [←hfn] at hfi
 have k1:=tc_clear1 h at_ now [(f:Int),(f:Int)+1] hsl hn hn2 (by simp;omega)
 obtain ⟨o1,p1⟩:=h.clr hsl hn (by simp;omega)
 simp only [List.length_cons,List.length_nil] at o1
 generalize D.clr at_ [(f:Int),(f:Int)+1]=D1 at *
 have k2:=tc_write1 o1 at_ f now m (by omega) hn hn2 (by omega) hm hml
 have o2:=o1.wr (slot:=f) (by omega) hn hml (by omega)
 generalize D1.wr at_ f m=D2 at *
 have k3:HCalls Tryd.prog 29 [.ptr 1000004 0,pint ((f:Int)+1),pman m] (tG 1000004 1000001 1000002 1000003 at_ now D2) (dMs 1000003 D2) (pint 0) (tG 1000004 1000001 1000002 1000003 at_ now (D2.wr at_ (f+1) m)) (dMs 1000003 (D2.wr at_ (f+1) m)):=tc_write1 o2 at_ (f+1) now m (by omega) hn hn2 (by omega) hm hml
 have o3:=o2.wr (slot:=f+1) (by omega) hn hml (by omega)
 generalize D2.wr at_ (f+1) m=D3 at *
 have hs:=o3.steps
 obtain ⟨s1,s2,s3,s4⟩:=o3.sync_ok (by omega)
 have hsy:=dc_Sync D3 ⟨by omega,by omega,by rw [o3.after];omega⟩ (by rw [o3.after];omega) (by rw [o3.len];omega) (by rw [o3.len];exact o3.op) 1000001 1000002 1000003 (by decide)
 rw [s1] at hsy
 clear s1 s2 s3 s4 hs o1 o2 o3 h p1 hc hm hml hcl hF
 generalize D3.sync.2=D4 at *
 obtain ⟨ver,notes,refs⟩:=m
 simp only at hv
 subst hv
 simp only at *
 have c1:=dC_low D
 have c2:=dM_low D
 refine wk ?_
 refine PW.unroll ?_
 refine wk ?_
 refine loopU ?_
 refine wk ?_
 refine loopU ?_
 refine wk ?_
 exact RetH.mk rfl (Weak.refl _) ⟨⟨_,rfl,WeakL.refl _⟩,⟨_,rfl,WeakL.refl _⟩,⟨_,rfl,WeakL.refl _⟩,trivial⟩ ⟨⟨rfl,rfl⟩,trivial⟩
end
end Go.Proofs.YtmeekbjhpidcgaaDoor
