/- Out of: Ci. -/
import Derived.Test.YtoamkpgaaanafaaGreatK1
import Derived.Test.YtoamkpgaaanafaaGreatK2
import Derived.Test.YtoamkpgaaanafaaGreatK4
import Derived.Test.YtoamkpgaaanafaaGreatK5
import Derived.Test.YtoamkpgaaanafaaGreatK6
import Derived.Test.YtoamkpgaaanafaaGreatK8
import Derived.Test.YtoamkpgaaanafaaGreatK9
import Derived.Test.YtoamkpgaaanafaaGreatK10
import Derived.Test.YtoamkpgaaanafaaGreatK11
import Derived.Test.YtoamkpgaaanafaaGreatK12
import Derived.Test.YtoamkpgaaanafaaGreatK13
import Derived.Test.YtoamkpgaaanafaaGreatK18
import Derived.Test.YtoamkpgaaanafaaGreatK21
import Derived.Test.YtoamkpgaaanafaaGreatK22
import Derived.Test.YtoamkpgaaanafaaGreatK24
import Derived.Test.YtoamkpgaaanafaaGreatK27
import Derived.Test.YtoamkpgaaanafaaGreatK29
import Derived.Test.YtoamkpgaaanafaaGreatK30
import Derived.Test.YtoamkpgaaanafaaGreatK32
namespace Go.Proofs.YtoamkpgaaanafaaGreat
set_option linter.unusedSimpArgs false
set_option linter.unusedVariables false
set_option linter.unnecessarySimpa false
section
open Go.RowKit
set_option maxRecDepth 10000 in
set_option maxHeartbeats 8000000 in
theorem pw_lCodes (z:PSum) (bs:List Int) (hby:Byte bs) (hb:bs.length≤200000000000000) (nz:fewZ z=true→NumZ z)
  (bz:z.box.lo.length≤20000000000000∧z.box.hi.length≤20000000000000∧z.shells.length≤20000000000000∧z.fields.length≤20000000000000∧∀f∈z.fields,f.words.length≤20000000000000) :
  PCalls Tryz.prog 10 [psum z,pbytes bs] (· = pbool true):=by
 obtain ⟨a1,a2,a3,a4,a5⟩:=bz
 have k0:=pw_sanity
 have k1:=pw_rFew z a1 a2 a3 a4 a5
 have hlz:=low_psumL z
 refine pcalls_of_pw typeTab_ok Tryz.func10 rfl (by kernel_rfl) (by simp [low_psum,low_pbytes]) (by simp [psum,psumL,pbytes,PV.ownB]) (by rw [Tryz.ntmps10];simp) ?_
 rw [Tryz.ntmps10,Tryz.results10]
 cases e1:fewZ z with
 |false=>
  rw [e1] at k1
  refine wk ?_
  exact retP (r:=pbool true) rfl (by exact lw) rfl
 |true=>
 rw [e1] at k1
 by_cases q1:bs.length > 5000
 ·refine wk ?_
  exact retP (r:=pbool true) rfl (by exact lw) rfl
 have hN:=nz e1
 have hE:=hN.enc
 have hfl:(flW z.fields).length≤20000:=by
  obtain ⟨f1,f2,f3,f4,f5⟩:=fewZ_get e1
  have:∀l:List PField,(∀f∈l,f.words.length≤60)→(flW l).length≤60 * l.length:=fun l=>by
   induction l with
   |nil=>simp [flW]
   |cons a r ih=>
    intro h
    have h1:=h a (by simp)
    have h2:=ih fun f hf=>h f (by simp [hf])
    simp only [flW,List.flatMap_cons,List.length_append,List.length_cons] at *
    omega
  have:=this z.fields (fun f hf=>(f5 f hf).1)
  omega
 have hlen:=encZ_few hN hfl
 have hbz:Byte (encZ z):=fun k c hk=>by
  have hc:=List.mem_of_getElem? hk
  rw [encZ,List.mem_append] at hc
  rcases hc with h|h
  ·exact intsBB2 _ c h
  ·exact strsBB2 _ c h
 have hby2:=hby.all
 have hY:=decZ_ok hby2 (getInts_fit2 bs hby) (by omega)
 have k2:=pw_zEncode z hE
 have k3:=pw_rEncode z hE
 have k4:=pw_zDecode (encZ z) hbz hlen
 rw [decZ_enc hE] at k4
 have k5:=pw_zDecode bs hby (by omega)
 have k6:=pw_rDecode bs hby (by omega)
 have k7:=pw_rSame z z hE hE
 have k8:=pw_rSame (decZ bs).1 (decZ bs).1 hY hY
 have k9:=pw_zEncode (decZ bs).1 hY
 have hback:(decZ bs).2=0→(strI (encZ (decZ bs).1)).toList=(strI bs).toList:=fun h=>by rw [enc_decZ hby2 h]
 have hn1:(!((strI (encZ z)).toList == (strI (encZ z)).toList))=false:=by simp
 have hn2:((strI (encZ z)).toList == (strI (encZ z)).toList)=true:=by simp
 rw [hn2] at k7
 rw [show ((strI (encZ (decZ bs).1)).toList == (strI (encZ (decZ bs).1)).toList)=true by simp] at k8
 have hly:=low_psumL (decZ bs).1
 have hlb2:Low (.agg (psumL (decZ bs).1 ++ [pint (decZ bs).2])):=.agg _ (by
  intro c hc
  rcases List.mem_append.1 hc with h|h
  ·exact low_psumL _ c h
  ·simp only [List.mem_cons,List.not_mem_nil,or_false] at h;subst h;exact .val _)
 generalize decZ bs=r at *
 obtain ⟨y,f⟩:=r
 simp only at k4 k5 k6 k8 k9 hback hly hlb2
 have hff:(!(f == f))=false:=by simp
 generalize encZ z=cz at *
 generalize encZ y=cy at *
 clear hbz hby hby2 hY hE hN nz hfl hlen e1 a5
 refine wk ?_
 by_cases q2:f=0
 ·have hs:((strI cy).toList == (strI bs).toList)=true:=by rw [hback q2];simp
  clear hback
  refine wk ?_
  exact retP (r:=pbool true) rfl (by exact lw) rfl
 ·refine wk ?_
  exact retP (r:=pbool true) rfl (by exact lw) rfl
end
end Go.Proofs.YtoamkpgaaanafaaGreat
