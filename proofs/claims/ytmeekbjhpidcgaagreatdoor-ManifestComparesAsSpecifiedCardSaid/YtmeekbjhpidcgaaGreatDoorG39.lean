/- Out of: Row32, Ue2, Tk, Tl, Um2. -/
import Derived.Test.YtmeekbjhpidcgaaGreatDoorG14
import Derived.Test.YtmeekbjhpidcgaaGreatDoorG28
import Derived.Test.YtmeekbjhpidcgaaGreatDoorG37
namespace Go.Proofs.YtmeekbjhpidcgaaGreatDoor
set_option linter.unusedSimpArgs false
set_option linter.unusedVariables false
set_option linter.unnecessarySimpa false
section
open Go.ChangeShapes Go.WideShapes Go.ChangeAt Go.RowKit
theorem argI:ArgOpens Tryz.prog 3 pint Fit64:=(arg_int Tryz.underlying3).map id (fun _ _=>rfl) (fun _ h=>wfI h)
end
section
open Go.RowKit
set_option maxRecDepth 10000 in
theorem pw_right32 (m:PMan) (h1:m.notes.length≤1000000000) (h2:m.refs.length≤1000000000):PCalls Tryz.prog 15 [pman m] (· = pbool (few32C m && decide (checkM 2 3 m=0))):=by
 have hlm:=low_pmanL m
 have hf:=pw_few32 m (by omega) (by omega)
 have hc:=pw_rCheck m h1 h2
 refine pcalls_of_pw typeTab_ok Tryz.func15 rfl (by kernel_rfl) (by simp [(low_pman m).2 trivial]) (by simp [pman,PV.ownB]) (Nat.le_of_ble_eq_true rfl) ?_
 generalize few32C m=b at *
 generalize checkM 2 3 m=z at *
 cases b with
 |false=>
  refine wk ?_
  exact retP (r:=pbool false) rfl (.val _) rfl
 |true=>
  by_cases h:z=0
  ·subst h
   refine wk ?_
   exact retP (r:=pbool true) rfl (.val _) rfl
  ·rw [decide_eq_false h]
   refine wk ?_
   exact retP (r:=pbool false) rfl (.val _) rfl
theorem hasR_mem {l:List PRef} {k i:Int} {r:PRef} (h:hasR l k i=some r):r∈l:=List.mem_of_find?_eq_some h
theorem hasR_dig {l:List PRef} (hd:∀r∈l,r.dig.length=16) (k i:Int):((hasR l k i).getD zeroR).dig.length=16:=by
 cases h:hasR l k i with
 |none=>rfl
 |some r=>exact hd r (hasR_mem h)
theorem wo_take {a b:List PRef} {k:Nat} {r:PRef} (h:a[k]? = some r):woM (a.take (k+1)) b=if inM b r=true then woM (a.take k) b else woM (a.take k) b ++ [r]:=by
 unfold woM
 rw [List.take_add_one,h,List.filter_append]
 simp only [Option.toList_some,List.filter_cons,List.filter_nil]
 cases inM b r<;>simp
theorem wo_le (a b:List PRef):(woM a b).length≤a.length:=List.length_filter_le _ _
def outR (l:List PRef):PV:=.sl l.length 18 (l.flatMap prefL) (some 42)
theorem outR_snoc (l:List PRef) (r:PRef):outR (l ++ [r]) = .sl (l.length+1) 18 (l.flatMap prefL ++ prefL r) (some 42):=by
 unfold outR
 rw [List.length_append,List.flatMap_append]
 simp
theorem low_outR (l:List PRef):Low (outR l):=.sl _ _ _ _ (low_rows _)
theorem low_outA (l:List PRef) (r:PRef) (o:Option TypeId):Low (.sl (l.length+1) 18 (l.flatMap prefL ++ prefL r) o):=.sl _ _ _ _ (fun c hc=>by
 rcases List.mem_append.1 hc with h|h
 ·exact low_rows l c h
 ·exact low_prefL r c h)
set_option maxRecDepth 10000 in
set_option maxHeartbeats 4000000 in
theorem pw_without (a b:PMan) (h1:a.refs.length≤1000000000) (h2:b.refs.length≤1000000000) (hb:risesM b.refs=true) (d1:∀r∈a.refs,r.dig.length=16) (d2:∀r∈b.refs,r.dig.length=16):PCalls Tryz.prog 47 [pman a,pman b] (· = prefs (woM a.refs b.refs)):=by
 have hla:=low_pmanL a
 have hlb:=low_pmanL b
 have hlr:Low (prefs a.refs):=(low_prefs _).2 trivial
 refine PCalls.weak ?_
 refine pcalls_of_pw typeTab_ok Tryz.func47 rfl (by kernel_rfl) (by simp [low_pint,low_pints,low_pstr,low_pbool,low_pbytes,low_pstrs,low_pman]) (by simp [pint,pints,pstr,pbool,pstrs,pbytes,PV.ownB,pman]) (by rw [Tryz.ntmps47];simp) ?_
 rw [Tryz.ntmps47,Tryz.results47]
 have f1:=rows_len a.refs
 refine wk ?_
 refine PW.loop (fun k:Nat=>((((((bot.setb 0 (pmanL a)).setb 1 (pmanL b)).put 3 (.ptr 1 0)).put 5 (outR (woM (a.refs.take k) b.refs))).put 11 (prefs a.refs)).put 12 (pint a.refs.length)).put 13 (pint k)) (fun k=>k≤a.refs.length) (fun k=>a.refs.length - k) 0 (by omega) ?_ ?_
 ·have h0:outR (woM (a.refs.take 0) b.refs) = .sl 0 18 [] (some 42):=by rw [List.take_zero];rfl
  try dsimp only
  rw [h0]
  exact sb
 ·intro k hk
  by_cases hlt:k < a.refs.length
  ·have hr:=getD_row hlt
   have hr':=ref_cell hr
   have hw:=wo_take (b:=b.refs) hr
   have hdr:=getD_dig hlt d1
   obtain ⟨r,hrr⟩:∃r,r=a.refs.getD k default:=⟨_,rfl⟩
   rw [←hrr] at hr hr' hw hdr
   have hh:=pw_has b r.kind r.id h2 hb
   have hdo:=hasR_dig d2 r.kind r.id
   have hin:inM b.refs r=decide (hasR b.refs r.kind r.id=some r):=rfl
   have hwl:=wo_le (a.refs.take k) b.refs
   have hla2:(a.refs.take k).length≤a.refs.length:=by rw [List.length_take];omega
   have hlo:=low_outR (woM (a.refs.take k) b.refs)
   have hlow:=low_outA (woM (a.refs.take k) b.refs) r
   rw [hin] at hw
   clear hin
   generalize woM (a.refs.take k) b.refs=w at *
   cases ho:hasR b.refs r.kind r.id with
   |none=>
    rw [ho] at hh hw
    rw [decide_eq_false (by simp),if_neg (by simp),] at hw
    clear ho hdo
    refine wk ?_
    refine loopP (k+1) (by omega) (by omega) ?_
    try dsimp only
    rw [hw,outR_snoc]
    exact sb
   |some x=>
    rw [ho] at hh hw hdo
    have hx16:x.dig.length=16:=hdo
    have he:=ref_eqs hx16 hdr
    clear ho hdo
    by_cases hxr:x=r
    ·rw [decide_eq_true hxr] at he
     rw [decide_eq_true (by rw [hxr]),if_pos rfl] at hw
     clear hxr
     refine wk ?_
     refine PWops.eqA rfl rfl rfl rfl rfl rfl rfl rfl he (.inr rfl) ?_
     clear he
     refine wk ?_
     refine loopP (k+1) (by omega) (by omega) ?_
     try dsimp only
     rw [hw]
     exact sb
    ·rw [decide_eq_false hxr] at he
     rw [decide_eq_false (by intro h;exact hxr (Option.some.inj h)),if_neg (by simp)] at hw
     clear hxr
     refine wk ?_
     refine PWops.eqA rfl rfl rfl rfl rfl rfl rfl rfl he (.inr rfl) ?_
     clear he
     refine wk ?_
     refine loopP (k+1) (by omega) (by omega) ?_
     try dsimp only
     rw [hw,outR_snoc]
     exact sb
  ·obtain rfl:k=a.refs.length:=by omega
   have e0:a.refs.take a.refs.length=a.refs:=List.take_length
   rw [e0]
   have hlo:=low_outR (woM a.refs b.refs)
   refine wk ?_
   exact retP (r:=prefs (woM a.refs b.refs)) rfl ((low_prefs _).2 trivial) (Weak.refl _)
set_option maxRecDepth 10000 in
theorem pw_changes (a b:PMan) (h1:a.refs.length≤1000000000) (h2:b.refs.length≤1000000000) (ha:risesM a.refs=true) (hb:risesM b.refs=true) (d1:∀r∈a.refs,r.dig.length=16) (d2:∀r∈b.refs,r.dig.length=16):PCalls Tryz.prog 18 [pman a,pman b] (· = .tup [prefs (woM a.refs b.refs),prefs (woM b.refs a.refs)]):=by
 have hla:=low_pmanL a
 have hlb:=low_pmanL b
 have c1:=pw_without a b h1 h2 hb d1 d2
 have c2:=pw_without b a h2 h1 ha d2 d1
 have l1:Low (prefs (woM a.refs b.refs)):=(low_prefs _).2 trivial
 have l2:Low (prefs (woM b.refs a.refs)):=(low_prefs _).2 trivial
 refine pcalls_of_pw typeTab_ok Tryz.func18 rfl (by kernel_rfl) (by simp [low_pint,low_pints,low_pstr,low_pbool,low_pbytes,low_pstrs,low_pman]) (by simp [pint,pints,pstr,pbool,pstrs,pbytes,PV.ownB,pman]) (by rw [Tryz.ntmps18];simp) ?_
 rw [Tryz.ntmps18,Tryz.results18]
 refine wk ?_
 exact retP (r:=.tup [prefs (woM a.refs b.refs),prefs (woM b.refs a.refs)]) rfl (low_tup.2 (by simp only [List.mem_cons,List.not_mem_nil,or_false];rintro x (rfl|rfl);exact l1;exact l2)) rfl
def foundL (o:Option PRef):List PV:=prefL (o.getD zeroR) ++ [pbool o.isSome]
theorem low_foundL (o:Option PRef):∀c∈foundL o,Low c:=by
 intro c hc
 rcases List.mem_append.1 hc with h|h
 ·exact low_prefL _ c h
 ·simp only [List.mem_cons,List.not_mem_nil,or_false] at h;subst h;exact .val _
theorem hasR_found {l:List PRef} {k:Nat} {a b:Int} (hk:k < l.length) (h:∀j,j < k→¬((l.getD j default).kind=a∧(l.getD j default).id=b)) (h2:(l.getD k default).kind=a∧(l.getD k default).id=b):hasR l a b=some (l.getD k default):=by
 unfold hasR
 rw [List.find?_eq_some_iff_getElem]
 have e:l.getD k default=l[k]:=by rw [List.getD_eq_getElem?_getD,List.getElem?_eq_getElem hk];rfl
 rw [e] at h2 ⊢
 refine ⟨by simp [h2.1,h2.2],k,hk,rfl,fun j hj=>?_⟩
 have h3:=h j hj
 rw [List.getD_eq_getElem?_getD,List.getElem?_eq_getElem (by omega)] at h3
 simp only [Option.getD_some] at h3
 simp only [Bool.not_eq_true',Bool.and_eq_false_iff,decide_eq_false_iff_not]
 by_cases h4:l[j].kind=a
 ·exact .inr fun h5=>h3 ⟨h4,h5⟩
 ·exact .inl h4
theorem hasR_not {l:List PRef} {a b:Int} (h:∀j,j < l.length→¬((l.getD j default).kind=a∧(l.getD j default).id=b)):hasR l a b=none:=by
 unfold hasR
 rw [List.find?_eq_none]
 intro x hx
 obtain ⟨j,hj,rfl⟩:=List.getElem_of_mem hx
 have h3:=h j hj
 rw [List.getD_eq_getElem?_getD,List.getElem?_eq_getElem hj] at h3
 simp only [Option.getD_some] at h3
 simp only [Bool.and_eq_true,decide_eq_true_eq]
 exact h3
set_option maxRecDepth 10000 in
set_option maxHeartbeats 2000000 in
theorem pw_rHas (m:PMan) (a b:Int) (hl:m.refs.length≤1000000000):PCalls Tryz.prog 17 [pman m,pint a,pint b] (· = .agg (foundL (hasR m.refs a b))):=by
 have hlm:=low_pmanL m
 have hlz:=low_foundL none
 have hlr:Low (prefs m.refs):=(low_prefs _).2 trivial
 refine pcalls_of_pw typeTab_ok Tryz.func17 rfl (by kernel_rfl) (by simp [low_pint,low_pints,low_pstr,low_pbool,low_pbytes,low_pstrs,low_pman]) (by simp [pint,pints,pstr,pbool,pstrs,pbytes,PV.ownB,pman]) (by rw [Tryz.ntmps17];simp) ?_
 rw [Tryz.ntmps17,Tryz.results17]
 have f1:=rows_len m.refs
 refine wk ?_
 refine PW.loop (fun k:Nat=>(((((((bot.setb 0 (pmanL m)).setb 1 (foundL none)).put 1 (pint a)).put 2 (pint b)).put 3 (.ptr 0 0)).put 6 (.ptr 1 0)).put 7 (pint k))) (fun k=>k≤m.refs.length∧∀j,j < k→¬((m.refs.getD j default).kind=a∧(m.refs.getD j default).id=b)) (fun k=>m.refs.length - k) 0 ⟨by omega,fun j hj=>by omega⟩ ?_ ?_
 ·exact sb
 ·rintro k ⟨hk,hu⟩
  by_cases hlt:k < m.refs.length
  ·have hu2:=fun _:Unit=>hu
   clear hu
   have hr':=ref_cell (getD_row hlt)
   by_cases e1:(m.refs.getD k default).kind=a
   ·by_cases e2:(m.refs.getD k default).id=b
    ·rw [hasR_found hlt (hu2 ()) ⟨e1,e2⟩]
     have hlf:=low_foundL (some (m.refs.getD k default))
     refine wk ?_
     exact retP (r:=.agg (foundL (some (m.refs.getD k default)))) rfl (.agg _ hlf) rfl
    ·refine wk ?_
     refine loopP (k+1) ⟨by omega,fun j hj=>?_⟩ (by omega) ?_
     ·by_cases hjk:j=k
      ·subst hjk;exact fun h=>e2 h.2
      ·exact hu2 () j (by omega)
     exact sb
   ·refine wk ?_
    refine loopP (k+1) ⟨by omega,fun j hj=>?_⟩ (by omega) ?_
    ·by_cases hjk:j=k
     ·subst hjk;exact fun h=>e1 h.1
     ·exact hu2 () j (by omega)
    exact sb
  ·obtain rfl:k=m.refs.length:=by omega
   rw [hasR_not hu]
   clear hu
   refine wk ?_
   exact retP (r:=.agg (foundL none)) rfl (.agg _ hlz) rfl
set_option maxRecDepth 10000 in
set_option maxHeartbeats 4000000 in
theorem pw_rWithout (a b:PMan) (h1:a.refs.length≤1000000000) (h2:b.refs.length≤1000000000) (d1:∀r∈a.refs,r.dig.length=16) (d2:∀r∈b.refs,r.dig.length=16):PCalls Tryz.prog 20 [pman a,pman b] (· = prefs (woM a.refs b.refs)):=by
 have hla:=low_pmanL a
 have hlb:=low_pmanL b
 have hlr:Low (prefs a.refs):=(low_prefs _).2 trivial
 refine PCalls.weak ?_
 refine pcalls_of_pw typeTab_ok Tryz.func20 rfl (by kernel_rfl) (by simp [low_pint,low_pints,low_pstr,low_pbool,low_pbytes,low_pstrs,low_pman]) (by simp [pint,pints,pstr,pbool,pstrs,pbytes,PV.ownB,pman]) (by rw [Tryz.ntmps20];simp) ?_
 rw [Tryz.ntmps20,Tryz.results20]
 have f1:=rows_len a.refs
 refine wk ?_
 refine PW.loop (fun k:Nat=>((((((bot.setb 0 (pmanL a)).setb 1 (pmanL b)).put 2 (.ptr 0 0)).put 3 (.ptr 1 0)).put 5 (outR (woM (a.refs.take k) b.refs))).put 6 (pint k))) (fun k=>k≤a.refs.length) (fun k=>a.refs.length - k) 0 (by omega) ?_ ?_
 ·have h0:outR (woM (a.refs.take 0) b.refs) = .sl 0 18 [] (some 42):=by rw [List.take_zero];rfl
  try dsimp only
  rw [h0]
  exact sb
 ·intro k hk
  by_cases hlt:k < a.refs.length
  ·have hr:=getD_row hlt
   have hw:=wo_take (b:=b.refs) hr
   have hdr:=getD_dig hlt d1
   have hh:=pw_rHas b (a.refs.getD k default).kind (a.refs.getD k default).id h2
   have hdo:=hasR_dig d2 (a.refs.getD k default).kind (a.refs.getD k default).id
   have hin:inM b.refs (a.refs.getD k default)=decide (hasR b.refs (a.refs.getD k default).kind (a.refs.getD k default).id=some (a.refs.getD k default)):=rfl
   have hwl:=wo_le (a.refs.take k) b.refs
   have hla2:(a.refs.take k).length≤a.refs.length:=by rw [List.length_take];omega
   have hlo:=low_outR (woM (a.refs.take k) b.refs)
   have hlow:=low_outA (woM (a.refs.take k) b.refs) (a.refs.getD k default)
   rw [hin] at hw
   clear hin
   generalize woM (a.refs.take k) b.refs=w at *
   cases ho:hasR b.refs (a.refs.getD k default).kind (a.refs.getD k default).id with
   |none=>
    rw [ho] at hh hw
    rw [decide_eq_false (by simp),if_neg (by simp)] at hw
    clear ho hdo
    refine wk ?_
    refine loopP (k+1) (by omega) (by omega) ?_
    try dsimp only
    rw [hw,outR_snoc]
    exact sb
   |some x=>
    rw [ho] at hh hw hdo
    have hx16:x.dig.length=16:=hdo
    have he:=ref_eqs hx16 hdr
    clear ho hdo
    by_cases hxr:x=a.refs.getD k default
    ·rw [decide_eq_true hxr] at he
     rw [decide_eq_true (by rw [hxr]),if_pos rfl] at hw
     clear hxr
     refine wk ?_
     refine PWops.eqA rfl rfl rfl rfl rfl rfl rfl rfl he (.inr rfl) ?_
     clear he
     refine wk ?_
     refine loopP (k+1) (by omega) (by omega) ?_
     try dsimp only
     rw [hw]
     exact sb
    ·rw [decide_eq_false hxr] at he
     rw [decide_eq_false (by intro h;exact hxr (Option.some.inj h)),if_neg (by simp)] at hw
     clear hxr
     refine wk ?_
     refine PWops.eqA rfl rfl rfl rfl rfl rfl rfl rfl he (.inr rfl) ?_
     clear he
     refine wk ?_
     refine loopP (k+1) (by omega) (by omega) ?_
     try dsimp only
     rw [hw,outR_snoc]
     exact sb
  ·obtain rfl:k=a.refs.length:=by omega
   have e0:a.refs.take a.refs.length=a.refs:=List.take_length
   rw [e0]
   have hlo:=low_outR (woM a.refs b.refs)
   refine wk ?_
   exact retP (r:=prefs (woM a.refs b.refs)) rfl ((low_prefs _).2 trivial) (Weak.refl _)
theorem pcalls_weakA {P:Program} {f:FuncId} {args args' : List PV} {post:PV→Prop} (h:PCalls P f args post) (hw:WeakL args' args):PCalls P f args' post:=by
 refine ⟨h.1,fun Φ μ w vs h1 hgl h2=>h.2 Φ μ w vs h1 hgl ⟨by rw [h2.1,hw.len],fun j p v hp hv=>?_⟩⟩
 obtain ⟨q,hq,hpq⟩:=hw.get j p hp
 exact hpq.1 Φ μ v (h2.2 j q v hq hv)
set_option maxRecDepth 10000 in
theorem pw_right32B (m:PMan) (h1:m.notes.length≤1000000000000000) (h2:m.refs.length≤1000000000000000):PCalls Tryz.prog 15 [pman m] (· = pbool (few32C m && decide (checkM 2 3 m=0))):=by
 by_cases g:few32C m=true
 ·have g1:=g
  unfold few32C at g1
  simp only [Bool.and_eq_true,Bool.or_eq_true,decide_eq_true_eq] at g1
  exact pw_right32 m (by omega) (by omega)
 ·have hlm:=low_pmanL m
  have hf:=pw_few32 m h1 h2
  rw [show few32C m=false by simpa using g] at hf ⊢
  refine pcalls_of_pw typeTab_ok Tryz.func15 rfl (by kernel_rfl) (by simp [(low_pman m).2 trivial]) (by simp [pman,PV.ownB]) (Nat.le_of_ble_eq_true rfl) ?_
  refine wk ?_
  exact retP (r:=pbool false) rfl (.val _) rfl
theorem weak_refsOnly (l:List PRef):Weak (.agg [pint 0, .nilsl,prefs l]) (pman ⟨0,[],l⟩):=.agg (.cons (.refl _) (.cons (.nil 1) (.cons (.refl _) .nil)))
set_option maxRecDepth 10000 in
set_option maxHeartbeats 4000000 in
theorem pw_lCompares (a b:PMan) (k i:Int) (hda:DigsOK a) (hdb:DigsOK b) (ha1:a.notes.length≤1000000000000000) (ha2:a.refs.length≤1000000000000000) (hb1:b.notes.length≤1000000000000000) (hb2:b.refs.length≤1000000000000000) :
  PCalls Tryz.prog 4 [pman a,pman b,pint k,pint i] (· = pbool true):=by
 have hsan:=pw_sanity32
 have hra:=pw_right32B a ha1 ha2
 have hrb:=pw_right32B b hb1 hb2
 have hla:=low_pmanL a
 have hlb:=low_pmanL b
 refine pcalls_of_pw typeTab_ok Tryz.func4 rfl (by kernel_rfl) (by intro p hp;simp only [List.mem_cons,List.not_mem_nil,or_false] at hp;rcases hp with rfl|rfl|rfl|rfl;exact (low_pman a).2 trivial;exact (low_pman b).2 trivial;exact .val _;exact .val _) (by simp [pman,pint,PV.ownB]) (Nat.le_of_ble_eq_true rfl) ?_
 by_cases g1:(few32C a && decide (checkM 2 3 a=0))=true
 case neg=>
  rw [show (few32C a && decide (checkM 2 3 a=0))=false by simpa using g1] at hra
  generalize (few32C b && decide (checkM 2 3 b=0))=y at *
  refine wk ?_
  exact retP rfl (.val _) rfl
 by_cases g2:(few32C b && decide (checkM 2 3 b=0))=true
 case neg=>
  rw [show (few32C b && decide (checkM 2 3 b=0))=false by simpa using g2] at hrb
  rw [g1] at hra
  refine wk ?_
  exact retP rfl (.val _) rfl
 rw [g1] at hra
 rw [g2] at hrb
 simp only [Bool.and_eq_true,decide_eq_true_eq] at g1 g2
 obtain ⟨⟨n1,n2⟩,ra⟩:=(checkM_iff (by decide) (by decide)).1 g1.2
 obtain ⟨⟨n3,n4⟩,rb⟩:=(checkM_iff (by decide) (by decide)).1 g2.2
 have sa:risesM a.refs=true:=by unfold rightM at ra;simp only [Bool.and_eq_true] at ra;exact ra.2.2.2.2
 have sb' : risesM b.refs=true:=by unfold rightM at rb;simp only [Bool.and_eq_true] at rb;exact rb.2.2.2.2
 have da:∀r∈a.refs,r.dig.length=16:=fun r hr=>(hda r hr).1
 have db:∀r∈b.refs,r.dig.length=16:=fun r hr=>(hdb r hr).1
 have k1:=pw_has a k i (by omega) sa
 have k2:=pw_rHas a k i (by omega)
 have k3:=pw_changes a b (by omega) (by omega) sa sb' da db
 have k4:=pw_rWithout a b (by omega) (by omega) da db
 have k5:=pw_rWithout b a (by omega) (by omega) db da
 obtain ⟨c1,c2,c3⟩:=changes_law sa sb'
 have e1:=wo_le a.refs b.refs
 have e2:=wo_le b.refs a.refs
 have e3:=wo_le a.refs (woM a.refs b.refs)
 have hx:=hasR_dig da k i
 have dg1:∀r∈woM a.refs b.refs,r.dig.length=16:=fun r hr=>da r (List.mem_filter.1 hr).1
 have dg2:∀r∈woM b.refs a.refs,r.dig.length=16:=fun r hr=>db r (List.mem_filter.1 hr).1
 have dg3:∀r∈woM a.refs (woM a.refs b.refs),r.dig.length=16:=fun r hr=>da r (List.mem_filter.1 hr).1
 have he:=ref_eqs (x:=(hasR a.refs k i).getD zeroR) (y:=(hasR a.refs k i).getD zeroR) hx hx
 rw [decide_eq_true rfl] at he
 have k6:=pw_sameRefs (woM a.refs b.refs) (woM a.refs b.refs) (by omega) (by omega) dg1 dg1
 have k7:=pw_sameRefs (woM b.refs a.refs) (woM b.refs a.refs) (by omega) (by omega) dg2 dg2
 rw [decide_eq_true rfl] at k6 k7
 have k8:PCalls Tryz.prog 20 [pman a, .agg [pint 0, .nilsl,prefs (woM a.refs b.refs)]] (· = prefs (woM a.refs (woM a.refs b.refs))):=
  pcalls_weakA (pw_rWithout a ⟨0,[],woM a.refs b.refs⟩ (by omega) (by show (woM a.refs b.refs).length≤_;omega) da dg1) (.cons (.refl _) (.cons (weak_refsOnly _) .nil))
 have k9:PCalls Tryz.prog 20 [.agg [pint 0, .nilsl,prefs (woM a.refs (woM a.refs b.refs))],pman b] (· = prefs []):=by
  have h:=pcalls_weakA (pw_rWithout ⟨0,[],woM a.refs (woM a.refs b.refs)⟩ b (by show (woM a.refs (woM a.refs b.refs)).length≤_;omega) (by omega) dg3 db) (.cons (weak_refsOnly _) (.cons (.refl _) .nil))
  rwa [show woM (PMan.mk 0 [] (woM a.refs (woM a.refs b.refs))).refs b.refs = [] from c2] at h
 have k10:PCalls Tryz.prog 20 [.agg [pint 0, .nilsl,prefs (woM b.refs a.refs)],pman b] (· = prefs []):=by
  have h:=pcalls_weakA (pw_rWithout ⟨0,[],woM b.refs a.refs⟩ b (by show (woM b.refs a.refs).length≤_;omega) (by omega) dg2 db) (.cons (weak_refsOnly _) (.cons (.refl _) .nil))
  rwa [show woM (PMan.mk 0 [] (woM b.refs a.refs)).refs b.refs = [] from c3] at h
 have l1:Low (prefs (woM a.refs b.refs)):=(low_prefs _).2 trivial
 have l2:Low (prefs (woM b.refs a.refs)):=(low_prefs _).2 trivial
 have l3:Low (prefs (woM a.refs (woM a.refs b.refs))):=(low_prefs _).2 trivial
 have hz1:((hasR a.refs k i).isSome == (hasR a.refs k i).isSome)=true:=by simp
 generalize hasR a.refs k i=o at *
 generalize woM a.refs (woM a.refs b.refs)=kept at *
 generalize woM a.refs b.refs=gone at *
 generalize woM b.refs a.refs=came at *
 clear sa sb' ra rb da db dg1 dg2 dg3 hda hdb c2 c3 hx g1 g2
 refine wk ?_
 refine PWops.eqA rfl rfl rfl rfl rfl rfl rfl rfl he (.inr rfl) ?_
 clear he hz1
 refine wk ?_
 cases hy:o.isSome<;>clear hy
 ·refine wk ?_
  exact retP rfl (.val _) rfl
 ·refine wk ?_
  exact retP rfl (.val _) rfl
end
end Go.Proofs.YtmeekbjhpidcgaaGreatDoor
