/- Out of: AttrR, Pa, Zh, Ze, Wv. -/
import Derived.Test.YtoamkpgaaanafaaGreatM13
import Derived.Test.YtoamkpgaaanafaaGreatM18
import Derived.Test.YtoamkpgaaanafaaGreatM19
namespace Go.Proofs.YtoamkpgaaanafaaGreat
set_option linter.unusedSimpArgs false
set_option linter.unusedVariables false
set_option linter.unnecessarySimpa false
section
open Go.RowKit
set_option maxRecDepth 100000 in
set_option maxHeartbeats 4000000 in
theorem refEntry (v u:Value) (s:PSchema) (x:PEntry) (w:World) (hv:SchemaV w v s) (hu:EntryV w u x) (hsm:SmallS s) (hl:x.vec.length≤1000000) (hl2:x.attrs.length≤1000000) :
  Calls Tryz.prog 40 #[v,u] w (RetI w (entryE s x)):=by
 obtain ⟨dv,rfl,hd⟩:=hv
 obtain ⟨vv,av,rfl,hi,hatt⟩:=hu
 have HS:=Lib.hid (SchAt.box w s dv 24 hd)
 have hw0:Below w.heap.size w (w.alloc (.cells #[.int .i64 s.dims, .int .i64 s.metric,dv] 24)):=below_alloc _ _
 have HE:=Lib.hid (EntAt.box _ x vv av 50 (hi.below hw0) (hatt.below hw0))
 have hw1:=below_two w (.cells #[.int .i64 s.dims, .int .i64 s.metric,dv] 24) (.cells #[.int .i64 x.id, .int .i64 x.ver, .int .i64 x.owner, .int .i64 x.filed, .int .i64 x.frm, .int .i64 x.to, .int .i64 x.born,vv,av] 50)
 have HS2:=Lib.hid (HS.out.below (below_alloc _ (.cells #[.int .i64 x.id, .int .i64 x.ver, .int .i64 x.owner, .int .i64 x.filed, .int .i64 x.frm, .int .i64 x.to, .int .i64 x.born,vv,av] 50)))
 have hsz:Hid ((w.alloc (.cells #[.int .i64 s.dims, .int .i64 s.metric,dv] 24)).heap.size=w.heap.size+1):=by simp [Hid]
 rw [hsz.out] at HE
 have HSM:=Lib.hid hsm
 obtain ⟨a1,cap1,b1,off1,rfl,-⟩:=hi.open
 clear HS hw0 hi hatt hd hsm hsz
 unfold entryVal
 go_enter Tryz.func40,Tryz.ntmps40
 go_upto_region 1 with fail
 generalize (w.alloc (.cells #[.int .i64 s.dims, .int .i64 s.metric,dv] 24)).alloc (.cells #[.int .i64 x.id, .int .i64 x.ver, .int .i64 x.owner, .int .i64 x.filed, .int .i64 x.frm, .int .i64 x.to, .int .i64 x.born, .slice a1 x.vec.length cap1,av] 50)=w0 at *
 obtain ⟨c0,c1,c2,c3,c4,c5,c6,c7,c8,-,-⟩:=HE.out
 obtain ⟨s0,s1,s2,-⟩:=HS2.out
 cases h0:decide (x.id < 1)
 case true=>
  have F:=Lib.hid (show entryE s x=1 by rw [entryE,if_pos (by simp only [decide_eq_true_eq,decide_eq_false_iff_not] at h0;omega)])
  go_wp2
  go_ret
  exact RetI.mk F.out.symm hw1
 cases h1:decide (1073741824 < x.id)
 case true=>
  have F:=Lib.hid (show entryE s x=1 by rw [entryE,if_pos (by simp only [decide_eq_true_eq,decide_eq_false_iff_not] at h0 h1;omega)])
  go_wp2
  go_ret
  exact RetI.mk F.out.symm hw1
 cases h2:decide (x.owner < 1)
 case true=>
  have F:=Lib.hid (show entryE s x=1 by rw [entryE,if_pos (by simp only [decide_eq_true_eq,decide_eq_false_iff_not] at h0 h1 h2;omega)])
  go_wp2
  go_ret
  exact RetI.mk F.out.symm hw1
 cases h3:decide (1073741824 < x.owner)
 case true=>
  have F:=Lib.hid (show entryE s x=1 by rw [entryE,if_pos (by simp only [decide_eq_true_eq,decide_eq_false_iff_not] at h0 h1 h2 h3;omega)])
  go_wp2
  go_ret
  exact RetI.mk F.out.symm hw1
 cases h4:decide (x.ver < 1)
 case true=>
  have F:=Lib.hid (show entryE s x=1 by rw [entryE,if_pos (by simp only [decide_eq_true_eq,decide_eq_false_iff_not] at h0 h1 h2 h3 h4;omega)])
  go_wp2
  go_ret
  exact RetI.mk F.out.symm hw1
 cases h5:decide (1073741824 < x.ver)
 case true=>
  have F:=Lib.hid (show entryE s x=1 by rw [entryE,if_pos (by simp only [decide_eq_true_eq,decide_eq_false_iff_not] at h0 h1 h2 h3 h4 h5;omega)])
  go_wp2
  go_ret
  exact RetI.mk F.out.symm hw1
 have NA:=Lib.hid (show ¬(x.id < 1∨1073741824 < x.id∨x.owner < 1∨1073741824 < x.owner∨x.ver < 1∨1073741824 < x.ver) by simp only [decide_eq_false_iff_not] at h0 h1 h2 h3 h4 h5;omega)
 go_upto_region 3 with fail
 clear h0 h1 h2 h3 h4 h5
 cases h0:decide (x.filed < 0)
 case true=>
  have F:=Lib.hid (show entryE s x=9 by rw [entryE,if_neg NA.out,if_pos (by simp only [decide_eq_true_eq,decide_eq_false_iff_not] at h0;omega)])
  go_wp2
  go_ret
  exact RetI.mk F.out.symm hw1
 cases h1:decide (x.frm < x.filed)
 case true=>
  have F:=Lib.hid (show entryE s x=9 by rw [entryE,if_neg NA.out,if_pos (by simp only [decide_eq_true_eq,decide_eq_false_iff_not] at h0 h1;omega)])
  go_wp2
  go_ret
  exact RetI.mk F.out.symm hw1
 cases h2:decide (x.to≤x.frm)
 case true=>
  have F:=Lib.hid (show entryE s x=9 by rw [entryE,if_neg NA.out,if_pos (by simp only [decide_eq_true_eq,decide_eq_false_iff_not] at h0 h1 h2;omega)])
  go_wp2
  go_ret
  exact RetI.mk F.out.symm hw1
 cases h3:decide (1048577 < x.to)
 case true=>
  have F:=Lib.hid (show entryE s x=9 by rw [entryE,if_neg NA.out,if_pos (by simp only [decide_eq_true_eq,decide_eq_false_iff_not] at h0 h1 h2 h3;omega)])
  go_wp2
  go_ret
  exact RetI.mk F.out.symm hw1
 cases h4:decide (1048576 < x.frm)
 case true=>
  have F:=Lib.hid (show entryE s x=9 by rw [entryE,if_neg NA.out,if_pos (by simp only [decide_eq_true_eq,decide_eq_false_iff_not] at h0 h1 h2 h3 h4;omega)])
  go_wp2
  go_ret
  exact RetI.mk F.out.symm hw1
 cases h5:decide (x.born < 1)
 case true=>
  have F:=Lib.hid (show entryE s x=9 by rw [entryE,if_neg NA.out,if_pos (by simp only [decide_eq_true_eq,decide_eq_false_iff_not] at h0 h1 h2 h3 h4 h5;omega)])
  go_wp2
  go_ret
  exact RetI.mk F.out.symm hw1
 cases h6:decide (1073741824 < x.born)
 case true=>
  have F:=Lib.hid (show entryE s x=9 by rw [entryE,if_neg NA.out,if_pos (by simp only [decide_eq_true_eq,decide_eq_false_iff_not] at h0 h1 h2 h3 h4 h5 h6;omega)])
  go_wp2
  go_ret
  exact RetI.mk F.out.symm hw1
 have NB:=Lib.hid (show ¬(x.filed < 0∨x.frm < x.filed∨x.to≤x.frm∨1048577 < x.to∨1048576 < x.frm∨x.born < 1∨1073741824 < x.born) by simp only [decide_eq_false_iff_not] at h0 h1 h2 h3 h4 h5 h6;omega)
 go_wp2_with fail
 clear h0 h1 h2 h3 h4 h5 h6
 refine (ref04Valid _ x.vec _ HE.out.2.2.2.2.2.2.2.2.2.1 (by omega)).mono ?_
 rintro e w' ⟨rfl,rfl⟩
 cases hv0:validV x.vec
 ·have F:=Lib.hid (show entryE s x=40 by rw [entryE,if_neg NA.out,if_neg NB.out,if_pos (.inl hv0)])
  clear hv0
  go_wp2
  go_ret
  exact RetI.mk F.out.symm hw1
 ·by_cases hd0:(x.vec.length:Int)=s.dims
  ·have F:=Lib.hid (show entryE s x=fitsE s x.attrs by rw [entryE,if_neg NA.out,if_neg NB.out,if_neg (by simp [hv0,hd0])])
   have hd1:((x.vec.length:Int) != s.dims)=false:=by simp [hd0]
   clear hv0 hd0
   go_wp2_with fail
   refine (refFits _ _ s x.attrs w0 ⟨_,rfl,HS2.out.2.2.2⟩ HE.out.2.2.2.2.2.2.2.2.2.2 HSM.out (by omega)).mono ?_
   rintro e w2 ⟨rfl,hb3⟩
   go_wp2
   go_ret
   exact RetI.mk F.out.symm (blift hw1 hb3)
  ·have F:=Lib.hid (show entryE s x=40 by rw [entryE,if_neg NA.out,if_neg NB.out,if_pos (.inr hd0)])
   have hd1:((x.vec.length:Int) != s.dims)=true:=by simp [hd0]
   clear hv0 hd0
   go_wp2
   go_ret
   exact RetI.mk F.out.symm hw1
theorem plain_int (k:IntKind) (z:Int):plainV (.int k z)=true:=rfl
theorem pcClone (zs:List Int) (hl:zs.length≤1000000000):PCalls Tryz.prog 137 [pints zs] (· = pintsO zs):=
 pcalls1 (by kernel_rfl) fun Φ μ w v himm hr=>(slicesCloneI v zs w (ints_of_rep himm hr) hl).mono (by
  rintro e w' ⟨u,rfl,ho,hb⟩
  exact post_own himm (plain_int _) ho hb)
theorem pcRefInts (zs:List Int) (hf:Fit zs) (hl:zs.length≤1000000000):PCalls Tryz.prog 128 [pints zs] (· = pbytesO (intsB zs)):=
 pcalls1 (by kernel_rfl) fun Φ μ w v himm hr=>(refInts v zs w (ints_of_rep himm hr) hf hl).mono (by
  rintro e w' ⟨u,rfl,ho,hb⟩
  exact post_own himm (plain_int _) ho hb)
theorem pcRefStrings (zs:List ByteArray) (hf:SmallStrs zs) (hl:zs.length≤1000000):PCalls Tryz.prog 129 [pstrs zs] (· = pbytesO (strsB zs)):=
 pcalls1 (by kernel_rfl) fun Φ μ w v himm hr=>(refStrings v zs w (strs_of_rep himm hr) hf hl).mono (by
  rintro e w' ⟨u,rfl,ho,hb⟩
  exact post_own himm (plain_int _) ho hb)
theorem pcCheck (s:PSchema) (hs:SmallS s):PCalls Tryz.prog 54 [pschema s] (· = pint (checkE s)):=
 pcalls1 (by kernel_rfl) fun Φ μ w v himm hr=>(attrCheck v s w (schema_of_rep himm hr) hs).mono (by
  rintro e w' ⟨rfl,hb⟩
  exact post_flat himm (.val _ rfl) rfl rfl hb)
theorem pcRefCheck (s:PSchema) (hs:SmallS s):PCalls Tryz.prog 18 [pschema s] (· = pint (checkE s)):=
 pcalls1 (by kernel_rfl) fun Φ μ w v himm hr=>(refCheck v s w (schema_of_rep himm hr) hs).mono (by
  rintro e w' ⟨rfl,hb⟩
  exact post_flat himm (.val _ rfl) rfl rfl hb)
theorem pcEntry (s:PSchema) (x:PEntry) (hs:SmallS s) (hl:x.vec.length≤1000000) (hl2:x.attrs.length≤1000000):PCalls Tryz.prog 34 [pschema s,pentry x] (· = pint (entryA s x)):=
 pcalls2 (by kernel_rfl) fun Φ μ w v u himm hr hr2=>(attrEntry v u s x w (schema_of_rep himm hr) (entry_of_rep himm hr2) hs hl hl2).mono (by
  rintro e w' ⟨rfl,hb⟩
  exact post_flat himm (.val _ rfl) rfl rfl hb)
theorem pcRefEntry (s:PSchema) (x:PEntry) (hs:SmallS s) (hl:x.vec.length≤1000000) (hl2:x.attrs.length≤1000000):PCalls Tryz.prog 40 [pschema s,pentry x] (· = pint (entryE s x)):=
 pcalls2 (by kernel_rfl) fun Φ μ w v u himm hr hr2=>(refEntry v u s x w (schema_of_rep himm hr) (entry_of_rep himm hr2) hs hl hl2).mono (by
  rintro e w' ⟨rfl,hb⟩
  exact post_flat himm (.val _ rfl) rfl rfl hb)
theorem pcGet (l:List PAttr) (nm:ByteArray) (hl:l.length≤1000000):PCalls Tryz.prog 37 [pattrs l,pstr nm] (· = .tup [.agg (pattrL (getA l nm).1),pbool (getA l nm).2]):=
 pcalls2 (by kernel_rfl) fun Φ μ w v u himm hr hr2=>by
  obtain ⟨rfl,-⟩:=hr2.val_inv
  exact (attrGet v l nm w (attrs_of_rep himm hr) hl).mono (by
   rintro e w' ⟨rfl,hb⟩
   exact post_flat himm (RepL.cons (RepL.cons (.val _ rfl) (RepL.cons (.val _ rfl) (RepL.cons (.val _ rfl) (RepL.cons (.val _ rfl) RepL.nil)))).agg (RepL.cons (.val _ rfl) RepL.nil)).tup rfl rfl hb)
def inB (x:Int):Bool:=decide (-1000≤x) && decide (x≤1000)
set_option maxRecDepth 10000 in
theorem pw_valid1 (s:Bool) (x:Int):PCalls Tryz.prog 100 [pbool s,pint x] (· = pbool (s && inB x)):=by
 refine pcalls_of_pw typeTab_ok Tryz.func100 rfl (by kernel_rfl) (by simp [low_pint,low_pbool]) (by simp [pint,pbool,PV.ownB]) (by rw [Tryz.ntmps100];simp) ?_
 rw [Tryz.ntmps100,Tryz.results100]
 cases s
 ·refine wk ?_
  exact retP rfl (by exact lw) rfl
 ·by_cases h1 : -1000≤x
  ·by_cases h2:x≤1000
   ·refine wk ?_
    exact retP rfl (by exact lw) (by simp [pbool,inB,h1,h2])
   ·refine wk ?_
    exact retP rfl (by exact lw) (by simp [pbool,inB,h2])
  ·refine wk ?_
   exact retP rfl (by exact lw) (by simp [pbool,inB,h1])
theorem foldl_take {α β:Type} [Inhabited β] (g:α→β→α) (n:α) (v:List β) {k:Nat} (h:k < v.length):(v.take (k+1)).foldl g n=g ((v.take k).foldl g n) (v.getD k default):=by
 rw [List.take_add_one,List.getElem?_eq_getElem h,List.foldl_append,List.getD_eq_getElem?_getD,List.getElem?_eq_getElem h]
 rfl
set_option maxRecDepth 10000 in
set_option maxHeartbeats 1000000 in
theorem pw_foldB (f:Nat) (g:Bool→Int→Bool) (v:List Int) (n:Bool) (hf:Nat.blt f 1000000=true) (hl:v.length≤1000000) (hp:∀k,k < v.length→PCalls Tryz.prog f [pbool ((v.take k).foldl g n),pint (v.getD k default)] (· = pbool (g ((v.take k).foldl g n) (v.getD k default)))):PCalls Tryz.prog 99 [pints v,pbool n, .fn f []] (· = pbool (v.foldl g n)):=by
 have hlow1:Low (.fn f []):=.fn f [] (by simp)
 refine pcalls_of_pw typeTab_ok Tryz.func99 rfl (by kernel_rfl) (by simp [low_pints,low_pbool,hlow1]) (by simp [pints,pbool,PV.ownB]) (by rw [Tryz.ntmps99];simp) ?_
 rw [Tryz.ntmps99,Tryz.results99]
 refine wk ?_
 refine PW.loop (fun k:Nat=>(((((bot.put 1 (pbool ((v.take k).foldl g n))).put 2 (.fn f [])).put 9 (pints v)).put 10 (pint v.length)).put 11 (pint k))) (fun k=>k≤v.length) (fun k=>v.length - k) 0 (by omega) ?_ ?_
 ·exact sb
 ·intro k hk
  by_cases hlt:k < v.length
  ·refine wk ?_
   refine PWops.callV hf (hp k hlt) rfl rfl rfl rfl rfl rfl ?_
   refine wk ?_
   refine loopP (k+1) (by omega) (by omega) ?_
   simp only [foldl_take g n v hlt]
   exact sb
  ·refine wk ?_
   refine retP rfl (by exact lw) ?_
   rw [List.take_of_length_le (by omega)];rfl
set_option maxRecDepth 10000 in
set_option maxHeartbeats 1000000 in
theorem pw_foldI (f:Nat) (g:Int→Int→Int) (v:List Int) (n:Int) (hf:Nat.blt f 1000000=true) (hl:v.length≤1000000) (hp:∀k,k < v.length→PCalls Tryz.prog f [pint ((v.take k).foldl g n),pint (v.getD k default)] (· = pint (g ((v.take k).foldl g n) (v.getD k default)))):PCalls Tryz.prog 190 [pints v,pint n, .fn f []] (· = pint (v.foldl g n)):=by
 have hlow1:Low (.fn f []):=.fn f [] (by simp)
 refine pcalls_of_pw typeTab_ok Tryz.func190 rfl (by kernel_rfl) (by simp [low_pints,low_pint,hlow1]) (by simp [pints,pint,PV.ownB]) (by rw [Tryz.ntmps190];simp) ?_
 rw [Tryz.ntmps190,Tryz.results190]
 refine wk ?_
 refine PW.loop (fun k:Nat=>(((((bot.put 1 (pint ((v.take k).foldl g n))).put 2 (.fn f [])).put 9 (pints v)).put 10 (pint v.length)).put 11 (pint k))) (fun k=>k≤v.length) (fun k=>v.length - k) 0 (by omega) ?_ ?_
 ·exact sb
 ·intro k hk
  by_cases hlt:k < v.length
  ·refine wk ?_
   refine PWops.callV hf (hp k hlt) rfl rfl rfl rfl rfl rfl ?_
   refine wk ?_
   refine loopP (k+1) (by omega) (by omega) ?_
   simp only [foldl_take g n v hlt]
   exact sb
  ·refine wk ?_
   refine retP rfl (by exact lw) ?_
   rw [List.take_of_length_le (by omega)];rfl
theorem vecB_fold (v:List Int):(v.foldl (fun s x=>s && inB x) true) = !v.any farB:=by
 have:∀(v:List Int) (s:Bool),v.foldl (fun s x=>s && inB x) s=(s && !v.any farB):=by
  intro v
  induction v with
  |nil=>intro s;simp
  |cons x v ih=>
   intro s
   rw [List.foldl_cons,ih,List.any_cons]
   have:inB x = !farB x:=by
    simp only [inB,farB,Bool.not_or]
    congr 1<;>rw [←decide_not]<;>congr 1<;>simp
   rw [this]
   cases s<;>cases farB x<;>simp
 simpa using this v true
set_option maxRecDepth 10000 in
theorem pw_vecValid (v:List Int) (hl:v.length≤1000000):PCalls Tryz.prog 38 [pints v] (· = pbool (vecB v)):=by
 have h:=pw_foldB 100 (fun s x=>s && inB x) v true rfl hl (fun k _=>pw_valid1 _ _)
 rw [vecB_fold] at h
 refine pcalls_of_pw typeTab_ok Tryz.func38 rfl (by kernel_rfl) (by simp [low_pints]) (by simp [pints,PV.ownB]) (by rw [Tryz.ntmps38];simp) ?_
 rw [Tryz.ntmps38,Tryz.results38]
 unfold vecB
 cases hb:v.any farB with
 |true=>
  rw [hb] at h
  refine wk ?_
  exact retP rfl (by exact lw) (by simp [pbool])
 |false=>
  rw [hb] at h
  by_cases h1:1≤v.length
  ·by_cases h2:v.length≤32
   ·refine wk ?_
    exact retP rfl (by exact lw) (by simp [pbool,h1,h2])
   ·refine wk ?_
    exact retP rfl (by exact lw) (by simp [pbool,h2])
  ·refine wk ?_
   exact retP rfl (by exact lw) (by simp [pbool,h1])
def mesL (g:Int→Int→Int→Int) (b:PBox) (v:List Int):List (List PV):=(List.range v.length).map fun k => [pint (g (b.lo.getD k default) (b.hi.getD k default) (v.getD k default))]
theorem mesL_len (g:Int→Int→Int→Int) (b:PBox) (v:List Int):(mesL g b v).length=v.length:=by simp [mesL]
theorem mesL_take {g:Int→Int→Int→Int} {b:PBox} {v:List Int} {k:Nat} (h:k < v.length):(mesL g b v).take (k+1)=(mesL g b v).take k ++ [[pint (g (b.lo.getD k default) (b.hi.getD k default) (v.getD k default))]]:=by
 rw [List.take_add_one]
 congr 1
 simp [mesL,h]
set_option maxRecDepth 10000 in
set_option maxHeartbeats 1000000 in
theorem it_measure (f:Nat) (g:Int→Int→Int→Int) (b:PBox) (v:List Int) (hf:Nat.blt f 1000000=true) (h1:v.length≤1000000) (h2:v.length≤b.lo.length) (h3:v.length≤b.hi.length) (h4:b.lo.length≤1000000000000) (h5:b.hi.length≤1000000000000) (hg:∀k,k < v.length→PCalls Tryz.prog f [pint (b.lo.getD k default),pint (b.hi.getD k default),pint (v.getD k default)] (· = pint (g (b.lo.getD k default) (b.hi.getD k default) (v.getD k default)))) :
  ItSpec Tryz.prog 233 [.ep [pints v] 0, .ep [.fn f []] 0, .ep [pints b.lo,pints b.hi] 0] (Part (mesL g b v)) (· = mesL g b v):=by
 have hlow1:Low (.ep [.fn f []] 0):=.ep _ _ (by intro c hc;simp only [List.mem_cons,List.not_mem_nil,or_false] at hc;subst hc;exact .fn f [] (by simp))
 have hlow2:Low (.ep [pints b.lo,pints b.hi] 0):=.ep _ _ (low_pboxL b)
 refine itspec_of_pwj typeTab_ok Tryz.func233 rfl (by kernel_rfl) (by simp [low_ep,low_pints,low_fn]) (by simp [PV.ownB]) (by rw [Tryz.ntmps233];simp) ?_
 intro E Φ0 W l hgiv hy hr
 rw [Tryz.ntmps233,Tryz.results233]
 refine jw0 ?_
 refine PWJ.of_pw ?_
 refine wk ?_
 refine jw0 ?_
 refine PWJ.loop (fun k:Nat=>(((((((bot.put 0 (.val (.func (.yield l) #[] #[]))).put 1 (.ep [pints v] 0)).put 2 (.ep [.fn f []] 0)).put 3 (.ep [pints b.lo,pints b.hi] 0)).put 7 (pints v)).put 8 (pint v.length)).put 9 (pint k))) (fun k=>some ((mesL g b v).take k)) (fun k=>k≤v.length) (fun k=>v.length - k) 0 (by omega) ?_ rfl ?_
 ·exact sb
 ·intro k hk
  by_cases hlt:k < v.length
  ·refine jw0 ?_
   refine PWJ.of_pw ?_
   refine wk ?_
   refine jw0 ?_
   refine PWJ.of_pw ?_
   refine wk ?_
   refine jw0 ?_
   refine PWJ.drawN 14 (x := [pint (g (b.lo.getD k default) (b.hi.getD k default) (v.getD k default))]) (d:=28) typeTab_ok (by kernel_rfl) hgiv hy hr (by kernel_rfl) (by kernel_rfl) (by rfl) (by rfl) ?_
   refine wk ?_
   refine PWops.callV hf (hg k hlt) rfl rfl rfl rfl rfl rfl ?_
   refine wk ?_
   refine ⟨⟨rfl,by decide,⟨_,_,rfl,rfl,rfl,rfl⟩,rfl,by simp [low_pint],⟨k+1,(mesL_take hlt).symm⟩,fun id bs e=>(by cases e),fun id es c e=>(by cases e)⟩,fun b' => ?_⟩
   cases b' with
   |true=>
    refine wk ?_
    refine jw0 ?_
    refine PWJ.of_pw ?_
    refine wk ?_
    refine jw0 ?_
    refine loopJ (k+1) (by omega) (by omega) ?_ ?_
    ·exact sb
    ·simp only [if_true];rw [mesL_take hlt]
   |false=>
    refine wk ?_
    refine jw0 ?_
    exact ⟨⟨_,rfl⟩,fun xs e=>by simp at e⟩
  ·refine jw0 ?_
   refine PWJ.of_pw ?_
   refine wk ?_
   refine jw0 ?_
   exact ⟨⟨_,rfl⟩,fun xs e=>by simp at e;rw [←e];exact List.take_of_length_le (by rw [mesL_len];omega)⟩
def addM (m n d:Int):Int:=if m=1 then n+d else if m=2 then n+d * d else max n d
def keyD (m:Int) (l:List Int):Int:=l.foldl (addM m) 0
def keyB (m:Int):Bool:=decide (1≤m) && decide (m≤3)
set_option maxRecDepth 10000 in
set_option maxHeartbeats 1000000 in
theorem pw_foldB2 (f:Nat) (g:Bool→Int→Bool) (v:List Int) (n:Bool) (hf:Nat.blt f 1000000=true) (hl:v.length≤20000000000000) (hp:∀k,k < v.length→PCalls Tryz.prog f [pbool ((v.take k).foldl g n),pint (v.getD k default)] (· = pbool (g ((v.take k).foldl g n) (v.getD k default)))):PCalls Tryz.prog 99 [pints v,pbool n, .fn f []] (· = pbool (v.foldl g n)):=by
 have hlow1:Low (.fn f []):=.fn f [] (by simp)
 refine pcalls_of_pw typeTab_ok Tryz.func99 rfl (by kernel_rfl) (by simp [low_pints,low_pbool,hlow1]) (by simp [pints,pbool,PV.ownB]) (by rw [Tryz.ntmps99];simp) ?_
 rw [Tryz.ntmps99,Tryz.results99]
 refine wk ?_
 refine PW.loop (fun k:Nat=>(((((bot.put 1 (pbool ((v.take k).foldl g n))).put 2 (.fn f [])).put 9 (pints v)).put 10 (pint v.length)).put 11 (pint k))) (fun k=>k≤v.length) (fun k=>v.length - k) 0 (by omega) ?_ ?_
 ·exact sb
 ·intro k hk
  by_cases hlt:k < v.length
  ·refine wk ?_
   refine PWops.callV hf (hp k hlt) rfl rfl rfl rfl rfl rfl ?_
   refine wk ?_
   refine loopP (k+1) (by omega) (by omega) ?_
   simp only [foldl_take g n v hlt]
   exact sb
  ·refine wk ?_
   refine retP rfl (by exact lw) ?_
   rw [List.take_of_length_le (by omega)];rfl
set_option maxRecDepth 10000 in
theorem pw_vecValid2 (v:List Int) (hl:v.length≤20000000000000):PCalls Tryz.prog 38 [pints v] (· = pbool (vecB v)):=by
 have h:=pw_foldB2 100 (fun s x=>s && inB x) v true rfl hl (fun k _=>pw_valid1 _ _)
 rw [vecB_fold] at h
 refine pcalls_of_pw typeTab_ok Tryz.func38 rfl (by kernel_rfl) (by simp [low_pints]) (by simp [pints,PV.ownB]) (by rw [Tryz.ntmps38];simp) ?_
 rw [Tryz.ntmps38,Tryz.results38]
 unfold vecB
 cases hb:v.any farB with
 |true=>
  rw [hb] at h
  refine wk ?_
  exact retP rfl (by exact lw) (by simp [pbool])
 |false=>
  rw [hb] at h
  by_cases h1:1≤v.length
  ·by_cases h2:v.length≤32
   ·refine wk ?_
    exact retP rfl (by exact lw) (by simp [pbool,h1,h2])
   ·refine wk ?_
    exact retP rfl (by exact lw) (by simp [pbool,h2])
  ·refine wk ?_
   exact retP rfl (by exact lw) (by simp [pbool,h1])
end
end Go.Proofs.YtoamkpgaaanafaaGreat
