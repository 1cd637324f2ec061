/- Out of: AttrP, AttrQ, PlainK. -/
import Derived.Laws.Strings
import Derived.Test.YtoamkpgaaanafaaGreatM10
import Derived.Test.YtoamkpgaaanafaaGreatM17
namespace Go.Proofs.YtoamkpgaaanafaaGreat
set_option linter.unusedSimpArgs false
set_option linter.unusedVariables false
set_option linter.unnecessarySimpa false
section
open Go.RowKit
def befN (l:List PAttr) (k:Nat):ByteArray:=match k with|0=>ByteArray.empty|j+1=>match l[j]? with|some a=>a.name|none=>ByteArray.empty
theorem fitsGo_dropT (ds:List PDef) (l:List PAttr) (k:Nat) (a:PAttr) (h:l[k]? = some a):fitsGo ds (befN l k) (k == 0) (l.drop k)=if fitE ds (befN l k) (k == 0) a≠0 then fitE ds (befN l k) (k == 0) a else fitsGo ds (befN l (k+1)) (k+1 == 0) (l.drop (k+1)):=by
 obtain ⟨hk,rfl⟩:=List.getElem?_eq_some_iff.1 h
 have e:befN l (k+1)=l[k].name:=by simp only [befN,h]
 rw [List.drop_eq_getElem_cons (by omega),fitsGo,e];rfl
theorem fitE_first (ds:List PDef) (b:ByteArray) (a:PAttr) (k:Nat) (d:PDef) (h:findI ds a.name=k) (hd:ds[k]? = some d):fitE ds b true a=valueE d a:=by
 rw [fitE,if_neg (by omega),h,Int.toNat_natCast,hd];simp
theorem fitE_later (ds:List PDef) (b:ByteArray) (a:PAttr) (k:Nat) (d:PDef) (h:findI ds a.name=k) (hd:ds[k]? = some d):fitE ds b false a=if leqB a.name b then 6 else valueE d a:=by
 rw [fitE,if_neg (by omega),h,Int.toNat_natCast,hd];simp
set_option maxRecDepth 100000 in
set_option maxHeartbeats 1000000 in
theorem refFits (v u:Value) (s:PSchema) (l:List PAttr) (w:World) (hv:SchemaV w v s) (hu:Attrs w u l) (hsm:SmallS s) (hl:l.length≤1000000) :
  Calls Tryz.prog 105 #[v,u] w (RetI w (fitsE s l)):=by
 obtain ⟨dv,rfl,hd⟩:=hv
 obtain ⟨s1,s2⟩:=hsm
 have S2:Hid (∀d∈s.defs,SmallD d):=s2
 have HB:=Lib.hid (SchAt.box w s dv 24 hd)
 have hw0:Below w.heap.size w (w.alloc (.cells #[.int .i64 s.dims, .int .i64 s.metric,dv] 24)):=below_alloc _ _
 have HU:=Lib.hid (hu.below hw0)
 obtain ⟨a,cap,b,off,rfl,hcap,hm,ha,hc⟩:=HU.out.open
 clear s2 hd hu
 go_enter Tryz.func105,Tryz.ntmps105
 go_wp2
 generalize hw:w.alloc (.cells #[.int .i64 s.dims, .int .i64 s.metric,dv] 24)=w0 at *
 have hsz' : w.heap.size < w0.heap.size:=by rw [←hw];simp
 clear hw
 have hda:=HB.out.2.2.2.open
 go_loopw [5] (fun i wr=>∃(k:Nat),k≤l.length∧i = .int .i64 k∧Below w0.heap.size w0 wr∧Hid (fitsE s l=fitsGo s.defs (befN l k) (k == 0) (l.drop k))) (fun i _=>l.length - (intOf i).toNat)
 case atStart=>exact ⟨0,by omega,rfl,Below.refl _ _,rfl⟩
 case round=>
  obtain ⟨k,hk,rfl,hb,hh⟩:=hrel
  obtain ⟨a2,cap2,b2,off2,rfl,hcap2,hm2,ha2,hc2⟩:=hda
  have HS:=Lib.hid (HB.out.below hb)
  obtain ⟨s0,s1',c2,-⟩:=HS.out
  by_cases hlt:k < l.length
  ·obtain ⟨y,hy⟩:=ints_get l k (by omega)
   have hy0:=hc.out k y hy
   obtain ⟨d0,d1,d2,d3⟩:=hy0.below hb
   have H:=Lib.hid (fitsGo_dropT s.defs l k y hy)
   obtain rfl:=ha (by omega)
   have HYY:=Lib.hid hy
   clear hy ha hy0
   go_wp2
   go_still_tail 6,(by kernel_rfl)
   change wpList _ _ _ _ _ wr.drew
   have HD:=Lib.hid (HS.out.below ((Below.refl _ _).drew))
   have hbd:Below w0.heap.size w0 wr.drew:=hb.drew
   clear HS s0 s1' c2 d0 d1 d2 d3
   generalize wr.drew=wd at *
   go_wp2_with fail
   refine (refFind _ s y.name _ ⟨_,rfl,HD.out.2.2.2⟩ (by omega)).mono ?_
   rintro e w1 ⟨rfl,hb1⟩
   have hb2:=blift hbd hb1
   have HS:=Lib.hid (HD.out.below hb1)
   clear hbd hb1 HD
   rcases findI_cases s.defs y.name with hf|⟨q,d,hf,hd⟩
   ·have F:=Lib.hid (fitE_none s.defs (befN l k) (k == 0) y (by omega))
    rw [hf]
    clear hf hc2 ha2
    go_wp2
    go_ret
    exact RetI.mk (by rw [hh.out,H.out,F.out];rfl) (blift hw0 hb2)
   ·rw [hf]
    have hq:q < s.defs.length:=(List.getElem?_eq_some_iff.1 hd).1
    obtain ⟨wv,hdd,hds⟩:=hc2.out q d hd
    have DD:=Lib.hid (hdd.below hb2)
    have DS:=Lib.hid (hds.below hb2)
    obtain ⟨e0,e1,e2,e3,e4⟩:=DD.out
    have hw:=(S2.out d (List.mem_of_getElem? hd)).2.1
    obtain rfl:=ha2 (by omega)
    obtain ⟨s0,s1',c2,-⟩:=HS.out
    have HY:=Lib.hid (hc.out k y HYY.out)
    obtain ⟨d0,d1,d2,d3⟩:=HY.out.below hb2
    have hq2:decide ((q:Int) < 0)=false:=by simp only [decide_eq_false_iff_not];omega
    by_cases hk0:k=0
    ·have F:=Lib.hid (fitE_first s.defs (befN l k) y q d hf hd)
     have K0:=Lib.hid (show (k == 0)=true by simp [hk0])
     have hk1:decide (0 < k)=false:=by simp only [decide_eq_false_iff_not];omega
     clear hc2 ha2 hdd hds hf hd hc hk0
     go_wp2
     go_quiet (fail)
     go_wp2
     have hq3:Below w0.heap.size w0 (w1.drewN nq):=blift hb2 (below_drewN _ _)
     have DS3:=Lib.hid (DS.out.below (below_drewN w1 nq))
     have DD3:=DD.out.below (below_drewN w1 nq)
     have HS3:=HS.out.below (below_drewN w1 nq)
     have HY3:=HY.out.below hq3
     clear s0 s1' c2 d0 d1 d2 d3 e0 e1 e2 e3 e4 DS DD HS hb2
     generalize w1.drewN nq=wq at *
     obtain ⟨e0,e1,e2,e3,e4⟩:=DD3
     obtain ⟨s0,s1',c2,-⟩:=HS3
     obtain ⟨d0,d1,d2,d3⟩:=HY3
     go_still_tail 9,(by kernel_rfl)
     change wpList _ _ _ _ _ wq.drew
     have hb3:Below w0.heap.size w0 wq.drew:=hq3.drew
     have DT:=Lib.hid (DS3.out.below ((Below.refl _ _).drew))
     clear s0 s1' c2 d0 d1 d2 d3 e0 e1 e2 e3 e4 DS3 hq3
     generalize wq.drew=w3 at *
     go_wp2_with fail
     refine (refValue d wv y w3 DT.out hw).mono ?_
     rintro e w4 ⟨rfl,hb4⟩
     have hb5:=blift hb3 hb4
     clear hb3 hb4 DT
     by_cases hz:valueE d y=0
     ·rw [hz] at F ⊢
      go_wp2
      go_roundw
      case rel=>exact ⟨k+1,by omega,by go_num,hb5,by rw [Hid,hh.out,H.out,K0.out,F.out];rfl⟩
      case measure=>simp [intOf];omega
     ·have hz' : (valueE d y != 0)=true:=by simp [hz]
      have HZ:=Lib.hid hz
      generalize valueE d y=x at *
      clear hz
      go_wp2
      go_ret
      exact RetI.mk (by rw [hh.out,H.out,K0.out,F.out,if_pos HZ.out]) (blift hw0 hb5)
    ·have K0:=Lib.hid (show (k == 0)=false by simp [hk0])
     have hk1:decide (0 < k)=true:=by simp only [decide_eq_true_eq];omega
     obtain ⟨z,hz⟩:=ints_get l (k - 1) (by omega)
     have hbf:=Lib.hid (show befN l k=z.name by obtain ⟨j,rfl⟩:∃j,k=j+1:=⟨k - 1,by omega⟩;simp only [befN];rw [show j=j+1 - 1 by omega,hz])
     have F0:=fitE_later s.defs (befN l k) y q d hf hd
     rw [hbf.out] at F0
     have HZ0:=Lib.hid (hc.out (k - 1) z hz)
     obtain ⟨z0,z1,z2,z3⟩:=HZ0.out.below hb2
     have ez:((k:Int) - 1)=((k - 1:Nat):Int):=by omega
     clear hc2 ha2 hdd hds hf hd hc hz z1 z2 z3 hk0
     cases hq3:leqB y.name z.name
     ·have hq4:(Op.bytesLess y.name.toList z.name.toList || y.name.toList == z.name.toList)=false:=hq3
      rw [hq3] at F0
      have F:=Lib.hid (show fitE s.defs (befN l k) false y=valueE d y by rw [hbf.out];simpa using F0)
      clear F0
      go_wp2
      go_quiet (fail)
      go_wp2
      have hq3:Below w0.heap.size w0 (w1.drewN nq):=blift hb2 (below_drewN _ _)
      have DS3:=Lib.hid (DS.out.below (below_drewN w1 nq))
      have DD3:=DD.out.below (below_drewN w1 nq)
      have HS3:=HS.out.below (below_drewN w1 nq)
      have HY3:=HY.out.below hq3
      clear s0 s1' c2 d0 d1 d2 d3 e0 e1 e2 e3 e4 DS DD HS hb2 z0
      generalize w1.drewN nq=wq at *
      obtain ⟨e0,e1,e2,e3,e4⟩:=DD3
      obtain ⟨s0,s1',c2,-⟩:=HS3
      obtain ⟨d0,d1,d2,d3⟩:=HY3
      go_still_tail 9,(by kernel_rfl)
      change wpList _ _ _ _ _ wq.drew
      have hb3:Below w0.heap.size w0 wq.drew:=hq3.drew
      have DT:=Lib.hid (DS3.out.below ((Below.refl _ _).drew))
      clear s0 s1' c2 d0 d1 d2 d3 e0 e1 e2 e3 e4 DS3 hq3
      generalize wq.drew=w3 at *
      go_wp2_with fail
      refine (refValue d wv y w3 DT.out hw).mono ?_
      rintro e w4 ⟨rfl,hb4⟩
      have hb5:=blift hb3 hb4
      clear hb3 hb4 DT
      by_cases hz:valueE d y=0
      ·rw [hz] at F ⊢
       go_wp2
       go_roundw
       case rel=>exact ⟨k+1,by omega,by go_num,hb5,by rw [Hid,hh.out,H.out,K0.out,F.out];rfl⟩
       case measure=>simp [intOf];omega
      ·have hz' : (valueE d y != 0)=true:=by simp [hz]
       have HZ:=Lib.hid hz
       generalize valueE d y=x at *
       clear hz
       go_wp2
       go_ret
       exact RetI.mk (by rw [hh.out,H.out,K0.out,F.out,if_pos HZ.out]) (blift hw0 hb5)
     ·have hq4:(Op.bytesLess y.name.toList z.name.toList || y.name.toList == z.name.toList)=true:=hq3
      rw [hq3] at F0
      have F:=Lib.hid (show fitE s.defs (befN l k) false y=6 by rw [hbf.out];simpa using F0)
      clear F0
      go_wp2
      go_quiet (fail)
      go_wp2
      go_ret
      exact RetI.mk (by rw [hh.out,H.out,K0.out,F.out];rfl) (blift hw0 (blift hb2 (below_drewN _ _)))
  ·clear hc ha hc2 ha2
   go_wp2
   go_ret
   exact RetI.mk (by rw [hh.out,fitsGo_end _ _ _ _ _ (by omega)]) (blift hw0 hb)
def idBad (e:PEntry):Bool:=decide (e.id < 1) || (decide (1073741824 < e.id) || (decide (e.owner < 1) || (decide (1073741824 < e.owner) || (decide (e.ver < 1) || (decide (1073741824 < e.ver))))))
theorem entry1 (g:Nat) (e:PEntry) (vv av:Value) (w:World) (h:EntAt w g e vv av):Calls Tryz.prog 88 #[.pointer (some ⟨g,0,none⟩)] w (RetB w (idBad e)):=by
 obtain ⟨c0,c1,c2,c3,c4,c5,c6,c7,c8,-,-⟩:=h
 cases h0:decide (e.id < 1)
 case true=>
  go_enter Tryz.func88,Tryz.ntmps88
  go_wp2
  go_ret
  exact RetB.mk (by simp [idBad,h0]) (Below.refl _ _)
 cases h1:decide (1073741824 < e.id)
 case true=>
  go_enter Tryz.func88,Tryz.ntmps88
  go_wp2
  go_ret
  exact RetB.mk (by simp [idBad,h0,h1]) (Below.refl _ _)
 cases h2:decide (e.owner < 1)
 case true=>
  go_enter Tryz.func88,Tryz.ntmps88
  go_wp2
  go_ret
  exact RetB.mk (by simp [idBad,h0,h1,h2]) (Below.refl _ _)
 cases h3:decide (1073741824 < e.owner)
 case true=>
  go_enter Tryz.func88,Tryz.ntmps88
  go_wp2
  go_ret
  exact RetB.mk (by simp [idBad,h0,h1,h2,h3]) (Below.refl _ _)
 cases h4:decide (e.ver < 1)
 case true=>
  go_enter Tryz.func88,Tryz.ntmps88
  go_wp2
  go_ret
  exact RetB.mk (by simp [idBad,h0,h1,h2,h3,h4]) (Below.refl _ _)
 cases h5:decide (1073741824 < e.ver)
 case true=>
  go_enter Tryz.func88,Tryz.ntmps88
  go_wp2
  go_ret
  exact RetB.mk (by simp [idBad,h0,h1,h2,h3,h4,h5]) (Below.refl _ _)
 go_enter Tryz.func88,Tryz.ntmps88
 go_wp2
 go_ret
 exact RetB.mk (by simp [idBad,h0,h1,h2,h3,h4,h5]) (Below.refl _ _)
theorem cE1:CallOk 88:=fun _ _=>by kernel_rfl
def fromBad (e:PEntry):Bool:=decide (e.filed < 0) || (decide (e.frm < e.filed) || (decide (1048576 < e.frm)))
theorem entry2 (g:Nat) (e:PEntry) (vv av:Value) (w:World) (h:EntAt w g e vv av):Calls Tryz.prog 89 #[.pointer (some ⟨g,0,none⟩)] w (RetB w (fromBad e)):=by
 obtain ⟨c0,c1,c2,c3,c4,c5,c6,c7,c8,-,-⟩:=h
 cases h0:decide (e.filed < 0)
 case true=>
  go_enter Tryz.func89,Tryz.ntmps89
  go_wp2
  go_ret
  exact RetB.mk (by simp [fromBad,h0]) (Below.refl _ _)
 cases h1:decide (e.frm < e.filed)
 case true=>
  go_enter Tryz.func89,Tryz.ntmps89
  go_wp2
  go_ret
  exact RetB.mk (by simp [fromBad,h0,h1]) (Below.refl _ _)
 cases h2:decide (1048576 < e.frm)
 case true=>
  go_enter Tryz.func89,Tryz.ntmps89
  go_wp2
  go_ret
  exact RetB.mk (by simp [fromBad,h0,h1,h2]) (Below.refl _ _)
 go_enter Tryz.func89,Tryz.ntmps89
 go_wp2
 go_ret
 exact RetB.mk (by simp [fromBad,h0,h1,h2]) (Below.refl _ _)
theorem cE2:CallOk 89:=fun _ _=>by kernel_rfl
def toBad (e:PEntry):Bool:=decide (e.to≤e.frm) || (decide (1048577 < e.to))
theorem entry3 (g:Nat) (e:PEntry) (vv av:Value) (w:World) (h:EntAt w g e vv av):Calls Tryz.prog 90 #[.pointer (some ⟨g,0,none⟩)] w (RetB w (toBad e)):=by
 obtain ⟨c0,c1,c2,c3,c4,c5,c6,c7,c8,-,-⟩:=h
 cases h0:decide (e.to≤e.frm)
 case true=>
  go_enter Tryz.func90,Tryz.ntmps90
  go_wp2
  go_ret
  exact RetB.mk (by simp [toBad,h0]) (Below.refl _ _)
 cases h1:decide (1048577 < e.to)
 case true=>
  go_enter Tryz.func90,Tryz.ntmps90
  go_wp2
  go_ret
  exact RetB.mk (by simp [toBad,h0,h1]) (Below.refl _ _)
 go_enter Tryz.func90,Tryz.ntmps90
 go_wp2
 go_ret
 exact RetB.mk (by simp [toBad,h0,h1]) (Below.refl _ _)
theorem cE3:CallOk 90:=fun _ _=>by kernel_rfl
def bornBad (e:PEntry):Bool:=decide (e.born < 1) || (decide (1073741824 < e.born))
theorem entry4 (g:Nat) (e:PEntry) (vv av:Value) (w:World) (h:EntAt w g e vv av):Calls Tryz.prog 91 #[.pointer (some ⟨g,0,none⟩)] w (RetB w (bornBad e)):=by
 obtain ⟨c0,c1,c2,c3,c4,c5,c6,c7,c8,-,-⟩:=h
 cases h0:decide (e.born < 1)
 case true=>
  go_enter Tryz.func91,Tryz.ntmps91
  go_wp2
  go_ret
  exact RetB.mk (by simp [bornBad,h0]) (Below.refl _ _)
 cases h1:decide (1073741824 < e.born)
 case true=>
  go_enter Tryz.func91,Tryz.ntmps91
  go_wp2
  go_ret
  exact RetB.mk (by simp [bornBad,h0,h1]) (Below.refl _ _)
 go_enter Tryz.func91,Tryz.ntmps91
 go_wp2
 go_ret
 exact RetB.mk (by simp [bornBad,h0,h1]) (Below.refl _ _)
theorem cE4:CallOk 91:=fun _ _=>by kernel_rfl
def vecBad (s:PSchema) (e:PEntry):Bool:=((e.vec.length:Int) != s.dims) || !validV e.vec
theorem entry5 (g h:Nat) (e:PEntry) (vv av:Value) (s:PSchema) (dv:Value) (w:World) (he:EntAt w g e vv av) (hs:SchAt w h s dv) (hl:e.vec.length≤1000000) :
  Calls Tryz.prog 92 #[.pointer (some ⟨g,0,none⟩), .pointer (some ⟨h,0,none⟩)] w (RetB w (vecBad s e)):=by
 obtain ⟨c0,c1,c2,c3,c4,c5,c6,c7,c8,hi,-⟩:=he
 obtain ⟨s0,-,-,-⟩:=hs
 have HI:=Lib.hid hi
 obtain ⟨a,cap,b,off,rfl,-⟩:=hi.open
 clear hi
 cases h0:((e.vec.length:Int) != s.dims)
 ·go_enter Tryz.func92,Tryz.ntmps92
  go_wp2_with fail
  refine (vectorValid _ e.vec _ HI.out (by omega)).mono ?_
  rintro e w' ⟨rfl,rfl⟩
  go_wp2
  go_ret
  exact RetB.mk (by simp [vecBad,h0]) (Below.refl _ _)
 ·go_enter Tryz.func92,Tryz.ntmps92
  go_wp2
  go_ret
  exact RetB.mk (by simp [vecBad,h0]) (Below.refl _ _)
theorem cE5:CallOk 92:=fun _ _=>by kernel_rfl
def rulesE (s:PSchema) (e:PEntry) (g h:Nat):List Rule := [⟨88,#[.pointer (some ⟨g,0,none⟩)],idBad e,1⟩,⟨89,#[.pointer (some ⟨g,0,none⟩)],fromBad e,9⟩,
 ⟨90,#[.pointer (some ⟨g,0,none⟩)],toBad e,9⟩,⟨91,#[.pointer (some ⟨g,0,none⟩)],bornBad e,9⟩,⟨92,#[.pointer (some ⟨g,0,none⟩), .pointer (some ⟨h,0,none⟩)],vecBad s e,40⟩]
def entR (s:PSchema) (e:PEntry):List (Bool×Int) := [(idBad e,1),(fromBad e,9),(toBad e,9),(bornBad e,9),(vecBad s e,40)]
theorem runE {s:PSchema} {e:PEntry} {vv av dv:Value} {g h:Nat} {w:World} (he:EntAt w g e vv av) (hs:SchAt w h s dv) (hl:e.vec.length≤1000000) (v:Value) (hv:Rules w v (rulesE s e g h)) :
  Calls Tryz.prog 87 #[v] w (RetI w (firstE (entR s e))):=by
 refine attrFirst v (rulesE s e g h) w hv (Nat.le_of_ble_eq_true rfl) ?_ ?_
 ·intro r hr
  simp only [rulesE,List.mem_cons,List.not_mem_nil,or_false] at hr
  rcases hr with rfl|rfl|rfl|rfl|rfl
  ·exact cE1
  ·exact cE2
  ·exact cE3
  ·exact cE4
  ·exact cE5
 ·intro r hr w' hb
  have he':=he.below hb
  have hs':=hs.below hb
  simp only [rulesE,List.mem_cons,List.not_mem_nil,or_false] at hr
  rcases hr with rfl|rfl|rfl|rfl|rfl
  ·exact entry1 g e vv av w' he'
  ·exact entry2 g e vv av w' he'
  ·exact entry3 g e vv av w' he'
  ·exact entry4 g e vv av w' he'
  ·exact entry5 g h e vv av s dv w' he' hs' hl
def entryA (s:PSchema) (e:PEntry):Int:=if firstE (entR s e)≠0 then firstE (entR s e) else fitsGo s.defs ByteArray.empty false e.attrs
set_option maxRecDepth 100000 in
set_option maxHeartbeats 1000000 in
theorem attrEntry (v u:Value) (s:PSchema) (x:PEntry) (w:World) (hv:SchemaV w v s) (hu:EntryV w u x) (hsm:SmallS s) (hl:x.vec.length≤1000000) (hl2:x.attrs.length≤1000000) :
  Calls Tryz.prog 34 #[v,u] w (RetI w (entryA s x)):=by
 obtain ⟨dv,rfl,hd⟩:=hv
 obtain ⟨vv,av,rfl,hi,hatt⟩:=hu
 have HS:=Lib.hid (SchAt.box w s dv 24 hd)
 have hw0:Below w.heap.size w (w.alloc (.cells #[.int .i64 s.dims, .int .i64 s.metric,dv] 24)):=below_alloc _ _
 have HE:=Lib.hid (EntAt.box _ x vv av 50 (hi.below hw0) (hatt.below hw0))
 have hw1:=below_two w (.cells #[.int .i64 s.dims, .int .i64 s.metric,dv] 24) (.cells #[.int .i64 x.id, .int .i64 x.ver, .int .i64 x.owner, .int .i64 x.filed, .int .i64 x.frm, .int .i64 x.to, .int .i64 x.born,vv,av] 50)
 have HS2:=Lib.hid (HS.out.below (below_alloc _ (.cells #[.int .i64 x.id, .int .i64 x.ver, .int .i64 x.owner, .int .i64 x.filed, .int .i64 x.frm, .int .i64 x.to, .int .i64 x.born,vv,av] 50)))
 have hsz:Hid ((w.alloc (.cells #[.int .i64 s.dims, .int .i64 s.metric,dv] 24)).heap.size=w.heap.size+1):=by simp [Hid]
 have hsz2:Hid (((w.alloc (.cells #[.int .i64 s.dims, .int .i64 s.metric,dv] 24)).alloc (.cells #[.int .i64 x.id, .int .i64 x.ver, .int .i64 x.owner, .int .i64 x.filed, .int .i64 x.frm, .int .i64 x.to, .int .i64 x.born,vv,av] 50)).heap.size=w.heap.size+1+1):=by simp [Hid]
 rw [hsz.out] at HE
 have HSM:=Lib.hid hsm
 clear HS hw0 hi hatt hd hsm hsz
 unfold entryVal
 go_enter Tryz.func34,Tryz.ntmps34
 go_wp2_with fail
 generalize (w.alloc (.cells #[.int .i64 s.dims, .int .i64 s.metric,dv] 24)).alloc (.cells #[.int .i64 x.id, .int .i64 x.ver, .int .i64 x.owner, .int .i64 x.filed, .int .i64 x.frm, .int .i64 x.to, .int .i64 x.born,vv,av] 50)=w0 at *
 refine (runE (HE.out.below (below_alloc _ _)) (HS2.out.below (below_alloc _ _)) (by omega) _ (Rules.mk (rulesE s x _ _) (Nat.le_of_ble_eq_true rfl) (hsz2.out.symm) rfl rfl)).mono ?_
 rintro e w1 ⟨rfl,hb⟩
 have hb1:=blift (below_alloc _ _) hb
 have hb2:=blift hw1 hb1
 have HE1:=Lib.hid (HE.out.below hb1)
 have HS1:=Lib.hid (HS2.out.below hb1)
 obtain ⟨-,-,-,-,-,-,-,-,c8,-,-⟩:=HE1.out
 obtain ⟨s0,s1,s2,-⟩:=HS1.out
 clear hb hb1 HE HS2 hsz2
 by_cases hz:firstE (entR s x)=0
 ·have F:=Lib.hid (show entryA s x=fitsGo s.defs ByteArray.empty false x.attrs by rw [entryA,if_neg (by simp [hz])])
  rw [hz]
  go_wp2_with fail
  refine (attrFits _ _ s x.attrs w1 ⟨_,rfl,HS1.out.2.2.2⟩ HE1.out.2.2.2.2.2.2.2.2.2.2 HSM.out (by omega)).mono ?_
  rintro e w2 ⟨rfl,hb3⟩
  go_wp2
  go_ret
  exact RetI.mk F.out.symm (blift hb2 hb3)
 ·have F:=Lib.hid (show entryA s x=firstE (entR s x) by rw [entryA,if_pos hz])
  have hz' : (firstE (entR s x) != 0)=true:=by simp [hz]
  generalize firstE (entR s x)=y at *
  clear hz
  go_wp2
  go_ret
  exact RetI.mk F.out.symm hb2
end
section
open Go Go.RowKit
theorem bl_irrefl:∀a:List UInt8,Op.bytesLess a a=false
 | []=>rfl
 |a :: x=>by simp [Op.bytesLess,bl_irrefl x]
theorem bl_trans:∀a b c:List UInt8,Op.bytesLess a b=true→Op.bytesLess b c=true→Op.bytesLess a c=true
 |_,[],c,h,_=>by cases ‹List UInt8› <;> simp [Op.bytesLess] at h
 |_,b :: y,[],_,h=>by simp [Op.bytesLess] at h
 | [],b :: y,c :: z,_,_=>by simp [Op.bytesLess]
 |a :: x,b :: y,c :: z,h,k=>by
  simp only [Op.bytesLess,Bool.or_eq_true,Bool.and_eq_true,decide_eq_true_eq,beq_iff_eq] at h k ⊢
  rcases h with h|⟨rfl,h⟩
  ·rcases k with k|⟨rfl,k⟩
   ·exact .inl (UInt8.lt_trans h k)
   ·exact .inl h
  ·rcases k with k|⟨rfl,k⟩
   ·exact .inl k
   ·exact .inr ⟨rfl,bl_trans x y z h k⟩
theorem bl_total:∀a b:List UInt8,Op.bytesLess a b=false→a≠b→Op.bytesLess b a=true
 | [],[],_,h=>absurd rfl h
 | [],b :: y,h,_=>by simp [Op.bytesLess] at h
 |a :: x,[],_,_=>by simp [Op.bytesLess]
 |a :: x,b :: y,h,hne=>by
  simp only [Op.bytesLess,Bool.or_eq_false_iff,decide_eq_false_iff_not,Bool.and_eq_false_iff,Bool.or_eq_true,Bool.and_eq_true,decide_eq_true_eq,beq_iff_eq] at h ⊢
  by_cases e:a=b
  ·subst e
   refine .inr ⟨rfl,bl_total x y ?_ (fun e=>hne (e ▸ rfl))⟩
   rcases h.2 with h2|h2
   ·simp at h2
   ·exact h2
  ·left
   have:=h.1
   have h3:¬a.toNat=b.toNat:=fun h=>e (UInt8.toNat_inj.1 h)
   rw [UInt8.lt_iff_toNat_lt] at this ⊢
   omega
def ltB (a b:ByteArray):Prop:=Op.bytesLess a.toList b.toList=true
theorem ltB_trans {a b c:ByteArray} (h:ltB a b) (k:ltB b c):ltB a c:=bl_trans _ _ _ h k
theorem ltB_ne {a b:ByteArray} (h:ltB a b):eqB a b=false:=by
 cases e:eqB a b with
 |false=>rfl
 |true=>
  simp only [eqB,beq_iff_eq] at e
  unfold ltB at h
  rw [e,bl_irrefl] at h;cases h
theorem eqB_self (a:ByteArray):eqB a a=true:=by simp [eqB]
theorem leqB_false {x p:ByteArray} : leqB x p=false↔ltB p x:=by
 unfold leqB ltB
 rw [Bool.or_eq_false_iff]
 constructor
 ·rintro ⟨h1,h2⟩
  exact bl_total _ _ h1 (by simpa using h2)
 ·intro h
  refine ⟨?_,?_⟩
  ·cases e:Op.bytesLess x.toList p.toList with
   |false=>rfl
   |true=>have:=bl_trans _ _ _ h e;rw [bl_irrefl] at this;cases this
  ·have:=ltB_ne h
   rw [eqB_comm] at this;exact this
structure DefsOk (b:ByteArray) (ds:List PDef):Prop where
 one:∀d∈ds,nameB d.name=true∧(d.kind=1∨d.kind=2)∧ltB b d.name
 rise:ds.Pairwise fun d e=>ltB d.name e.name
theorem defE_ok {d:PDef} {b:ByteArray} (h:defE d b=0):nameB d.name=true∧(d.kind=1∨d.kind=2)∧ltB b d.name:=by
 unfold defE at h
 split at h
 ·simp at h
 ·rename_i h1
  split at h
  ·simp at h
  ·rename_i h2
   refine ⟨by simpa using h1,?_,leqB_false.1 (by simpa using h2)⟩
   split at h
   ·left;assumption
   ·split at h
    ·right;assumption
    ·simp at h
theorem defsE_ok:∀(ds:List PDef) (b:ByteArray),defsE b ds=0→DefsOk b ds
 | [],b,_=>⟨by simp, .nil⟩
 |d :: r,b,h=>by
  rw [defsE] at h
  split at h
  ·rename_i h1;exact absurd h h1
  ·rename_i h1
   obtain ⟨k1,k2,k3⟩:=defE_ok (by simpa using h1)
   have ih:=defsE_ok r d.name h
   refine ⟨fun e he=>?_,?_⟩
   ·rcases List.mem_cons.1 he with rfl|he
    ·exact ⟨k1,k2,k3⟩
    ·obtain ⟨i1,i2,i3⟩:=ih.one e he
     exact ⟨i1,i2,ltB_trans k3 i3⟩
   ·rw [List.pairwise_cons]
    exact ⟨fun e he=>(ih.one e he).2.2,ih.rise⟩
theorem checkE_ok {s:PSchema} (h:checkE s=0):DefsOk ByteArray.empty s.defs:=by
 unfold checkE at h
 split at h
 ·simp at h
 ·split at h
  ·simp at h
  ·exact defsE_ok _ _ h
theorem idxGo_first:∀(l:List Bool) (j:Nat) (k:Int),(∀i,i < j→l[i]? = some false)→l[j]? = some true→idxGo l k=k+j
 | [],j,k,_,h=>by simp at h
 |b :: r,0,k,_,h=>by simp at h;subst h;simp [idxGo]
 |b :: r,j+1,k,h1,h2=>by
  have h0:=h1 0 (by omega)
  simp at h0;subst h0
  rw [idxGo,if_neg (by simp),idxGo_first r j (k+1) (fun i hi=>by simpa using h1 (i+1) (by omega)) (by simpa using h2)]
  omega
theorem findI_at {b:ByteArray} {ds:List PDef} (h:DefsOk b ds) {j:Nat} {d:PDef} (hj:ds[j]? = some d):findI ds d.name=j:=by
 unfold findI idxB
 rw [idxGo_first _ j 0 (fun i hi=>?_) (by rw [List.getElem?_map,hj];simp [eqB_self])]
 ·omega
 ·obtain ⟨hj1,hj2⟩:=List.getElem?_eq_some_iff.1 hj
  have:=List.pairwise_iff_getElem.1 h.rise i j (by omega) hj1 hi
  rw [List.getElem?_map,List.getElem?_eq_getElem (by omega:i < ds.length),Option.map_some,←hj2,ltB_ne this]
theorem findI_get {ds:List PDef} {nm:ByteArray} (h:0≤findI ds nm):∃d,ds[(findI ds nm).toNat]? = some d:=by
 have:=idxB_lt (ds.map fun (d:PDef)=>eqB d.name nm) (by unfold findI at h;exact h)
 rw [List.length_map] at this
 have hlt:(findI ds nm).toNat < ds.length:=by unfold findI at h ⊢; omega
 exact ⟨_,List.getElem?_eq_getElem hlt⟩
theorem idxGo_true:∀(l:List Bool) (k:Int),idxGo l k ≠ -1→0≤k→l[(idxGo l k - k).toNat]? = some true
 | [],k,h,_=>by simp [idxGo] at h
 |b :: r,k,h,hk=>by
  rw [idxGo] at h ⊢
  cases b with
  |true=>simp
  |false=>
   simp only [Bool.false_eq_true,if_false] at h ⊢
   have ih:=idxGo_true r (k+1) h (by omega)
   have hb:=idxGo_bd r (k+1) (by omega)
   rcases hb with ⟨e,-⟩|⟨e,-,-⟩
   ·exact absurd e h
   ·rw [show (idxGo r (k+1) - k).toNat=(idxGo r (k+1) - (k+1)).toNat+1 by omega,List.getElem?_cons_succ]
    exact ih
theorem findI_name {ds:List PDef} {nm:ByteArray} (h:0≤findI ds nm) {d:PDef} (hd:ds[(findI ds nm).toNat]? = some d):eqB d.name nm=true:=by
 have:=idxGo_true (ds.map fun d=>eqB d.name nm) 0 (by unfold findI idxB at h;omega) (by omega)
 rw [Int.sub_zero] at this
 unfold findI idxB at hd
 rw [List.getElem?_map,hd] at this
 simpa using this
def one (ds:List PDef) (a:PAttr):Prop:=0≤findI ds a.name∧(match ds[(findI ds a.name).toNat]? with|some d=>valueE d a|none=>0)=0
theorem fitE_iff {ds:List PDef} {b:ByteArray} {a:PAttr} : fitE ds b false a=0↔ltB b a.name∧one ds a:=by
 unfold fitE one
 by_cases h1:findI ds a.name < 0
 ·rw [if_pos h1]
  constructor
  ·intro h;simp at h
  ·rintro ⟨-,h,-⟩;omega
 ·rw [if_neg h1]
  cases h2:leqB a.name b with
  |true=>
   simp only [Bool.not_false,Bool.true_and,if_true]
   constructor
   ·intro h;simp at h
   ·rintro ⟨h,-⟩
    rw [leqB_false.2 h] at h2;cases h2
  |false=>
   simp only [Bool.not_false,Bool.true_and,Bool.false_eq_true,if_false]
   exact ⟨fun h=>⟨leqB_false.1 h2,by omega,h⟩,fun h=>h.2.2⟩
theorem fits_iff {ds:List PDef} : ∀(l:List PAttr) (b:ByteArray),fitsGo ds b false l=0↔(∀a∈l,ltB b a.name∧one ds a)∧l.Pairwise fun x y=>ltB x.name y.name
 | [],b=>by simp [fitsGo]
 |a :: r,b=>by
  rw [fitsGo]
  by_cases h:fitE ds b false a=0
  ·rw [if_neg (by simpa using h),fits_iff r a.name]
   obtain ⟨h1,h2⟩:=fitE_iff.1 h
   rw [List.pairwise_cons]
   constructor
   ·rintro ⟨k1,k2⟩
    refine ⟨fun x hx=>?_,fun x hx=>(k1 x hx).1,k2⟩
    rcases List.mem_cons.1 hx with rfl|hx
    ·exact ⟨h1,h2⟩
    ·exact ⟨ltB_trans h1 (k1 x hx).1,(k1 x hx).2⟩
   ·rintro ⟨k1,k2,k3⟩
    exact ⟨fun x hx=>⟨k2 x hx,(k1 x (by simp [hx])).2⟩,k3⟩
  ·rw [if_pos (by simpa using h)]
   constructor
   ·intro e;exact absurd e h
   ·rintro ⟨k1,-⟩;exact absurd (fitE_iff.2 (k1 a (by simp))) h
theorem fits_first {b:ByteArray} {ds:List PDef} (hd:DefsOk b ds) (hb:b=ByteArray.empty) (l:List PAttr):fitsGo ds b false l=fitsGo ds b true l:=by
 cases l with
 |nil=>rfl
 |cons a r=>
  have:fitE ds b false a=fitE ds b true a:=by
   unfold fitE
   by_cases h1:findI ds a.name < 0
   ·rw [if_pos h1,if_pos h1]
   ·rw [if_neg h1,if_neg h1]
    obtain ⟨d,hd'⟩:=findI_get (show 0≤findI ds a.name by omega)
    have hn:=findI_name (by omega) hd'
    have hm:=(hd.one d (mem_of_get' hd')).2.2
    have e:d.name.toList=a.name.toList:=by simpa [eqB] using hn
    have:leqB a.name b=false:=leqB_false.2 (by unfold ltB at hm ⊢; rw [←e];exact hm)
    simp [this]
  rw [fitsGo,fitsGo,this]
where
 mem_of_get' {α:Type} {l:List α} {j:Nat} {c:α} (h:l[j]? = some c):c∈l:=List.mem_of_getElem? h
theorem entryA_E {s:PSchema} (h:checkE s=0) (e:PEntry):entryA s e=entryE s e:=by
 have hf:fitsGo s.defs ByteArray.empty false e.attrs=fitsE s e.attrs:=fits_first (checkE_ok h) rfl _
 have h1:idBad e=decide (e.id < 1∨1073741824 < e.id∨e.owner < 1∨1073741824 < e.owner∨e.ver < 1∨1073741824 < e.ver):=by
  simp only [idBad,Bool.decide_or]
 have h2:(fromBad e || (toBad e || bornBad e))=decide (e.filed < 0∨e.frm < e.filed∨e.to≤e.frm∨1048577 < e.to∨1048576 < e.frm∨e.born < 1∨1073741824 < e.born):=by
  rw [Bool.eq_iff_iff]
  simp only [fromBad,toBad,bornBad,Bool.or_eq_true,decide_eq_true_eq]
  constructor<;>intro h<;>omega
 have h3:vecBad s e=decide (validV e.vec=false∨(e.vec.length:Int)≠s.dims):=by
  rw [Bool.eq_iff_iff]
  simp only [vecBad,Bool.or_eq_true,bne_iff_ne,Bool.not_eq_true',decide_eq_true_eq]
  exact ⟨fun h=>h.symm,fun h=>h.symm⟩
 unfold entryA entR entryE
 rw [hf]
 simp only [firstE,h1,h3]
 by_cases g1:e.id < 1∨1073741824 < e.id∨e.owner < 1∨1073741824 < e.owner∨e.ver < 1∨1073741824 < e.ver
 ·simp [g1]
 ·rw [if_neg g1]
  simp only [g1,decide_false,Bool.false_eq_true,if_false]
  by_cases g2:e.filed < 0∨e.frm < e.filed∨e.to≤e.frm∨1048577 < e.to∨1048576 < e.frm∨e.born < 1∨1073741824 < e.born
  ·rw [if_pos g2]
   rw [decide_eq_true g2] at h2
   simp only [Bool.or_eq_true] at h2
   cases ha:fromBad e<;>cases hb:toBad e<;>cases hc:bornBad e<;>simp_all
  ·rw [if_neg g2]
   rw [decide_eq_false g2] at h2
   simp only [Bool.or_eq_false_iff] at h2
   simp only [h2.1,h2.2.1,h2.2.2,Bool.false_eq_true,if_false]
   by_cases g3:validV e.vec=false∨(e.vec.length:Int)≠s.dims
   ·simp [g3]
   ·simp [g3]
end
end Go.Proofs.YtoamkpgaaanafaaGreat
