/- Out of: Qh, Ua, Wj, Wm, Row18d, Wa, Wf, Ho, Hp, Hn, Hq, Hm. -/
import Derived.Test.YtoamkpgaaanafaaGreatM33
import Derived.Test.YtoamkpgaaanafaaGreatM35
import Derived.Test.YtoamkpgaaanafaaGreatM37
import Derived.Test.YtoamkpgaaanafaaGreatM38
namespace Go.Proofs.YtoamkpgaaanafaaGreat
set_option linter.unusedSimpArgs false
set_option linter.unusedVariables false
set_option linter.unnecessarySimpa false
section
open Go.RowKit
mutual
/-- Conditions that can be weighed. -/
def okP (s:PSchema):PPred→Prop
 | .mk op nm n m w subs=>(1≤op∧op≤7)∧(op=4→0 < subs.length)∧(5≤op→0≤findI s.defs nm)∧subs.length≤1000000∧okL s subs
def okL (s:PSchema):List PPred→Prop
 | []=>True
 |p :: l=>okP s p∧okL s l
end
def SmallW (s:PSchema) (z:PSum):Prop:=s.defs.length≤1000∧s.defs.length≤z.fields.length∧z.fields.length≤1000000∧∀k,(z.fields.getD k default).words.length≤1000000
end
section
open Go.RowKit
variable (s:PSchema) (z:PSum)
set_option maxRecDepth 10000 in
set_option maxHeartbeats 4000000 in
theorem hc_weigh0 (p:PPred) (t:PTruth) (h:(p.op=1∧WCalls s z 164 [.ptr 1000001 0,ppred p] (ptruth t))∨(p.op=2∧WCalls s z 165 [.ptr 1000001 0,ppred p,fNever,fNo] (ptruth t))∨(p.op=3∧WCalls s z 168 [.ptr 1000001 0,ppred p,fYes,fAlways] (ptruth t))∨(p.op=4∧WCalls s z 169 [.ptr 1000001 0,ppred p] (ptruth t))∨(p.op=5∧WCalls s z 170 [.ptr 1000001 0,ppred p] (ptruth t))∨(p.op=6∧WCalls s z 172 [.ptr 1000001 0,ppred p] (ptruth t))∨(p.op=7∧WCalls s z 173 [.ptr 1000001 0,ppred p] (ptruth t))) :
  WCalls s z 85 [.ptr 1000001 0,ppred p] (ptruth t):=by
 have hps:Low (ppreds p.subs):=(low_ppreds _).2 trivial
 unfold WCalls at *
 refine hcalls_of_pw typeTab_ok Tryz.func85 rfl (by kernel_rfl) (by simp [ppred,PV.ownB]) (by rw [Tryz.ntmps85];simp) (by simp [ResIds,wG,wMs]) (by simp [ResIds,wG,wMs]) (w_ok s z (w_args s z p) (low_ptruth _)) ?_ (w_givB s z) w_givM
 rw [Tryz.ntmps85,Tryz.results85]
 unfold ppred at *
 rcases h with ⟨ho,h⟩|⟨ho,h⟩|⟨ho,h⟩|⟨ho,h⟩|⟨ho,h⟩|⟨ho,h⟩|⟨ho,h⟩
 all_goals
  rw [prL_eq,ho] at h ⊢
  refine wk ?_
  exact w_ret (r:=ptruth t) rfl rfl rfl
end
section
open Go.RowKit
variable {s:PSchema} {z:PSum}
mutual
theorem hc_weigh (hs:SmallW s z):∀p:PPred,okP s p→WCalls s z 85 [.ptr 1000001 0,ppred p] (ptruth (canZ s z p))
 | .mk op nm n m w subs,h=>by
  rw [okP] at h
  obtain ⟨h1,h2,h3,h4,h5⟩:=h
  have hL:=hc_weighL hs subs h5
  have ha:=hc_all s z (.mk op nm n m w subs) h4 hL
  have hfld:5≤op→WCalls s z 171 [.ptr 1000001 0,pstr nm] (pfld (fieldAt s z nm)):=fun h=>by
   have hf:=h3 h
   obtain ⟨d,hd⟩:=findI_get hf
   have hlt:=(List.getElem?_eq_some_iff.1 hd).1
   exact hc_field s z nm hf (by have:=hs.2.1;omega) hs.1 hs.2.2.1
  refine hc_weigh0 s z _ _ ?_
  rw [canZ]
  rcases (show op=1∨op=2∨op=3∨op=4∨op=5∨op=6∨op=7 by omega) with rfl|rfl|rfl|rfl|rfl|rfl|rfl
  ·refine .inl ⟨rfl,?_⟩
   rw [if_pos rfl]
   exact hc_w5 s z _
  ·refine .inr (.inl ⟨rfl,?_⟩)
   rw [if_neg (by decide),if_pos rfl,canL_eq]
   exact hc_w6 s z _ h4 ha
  ·refine .inr (.inr (.inl ⟨rfl,?_⟩))
   rw [if_neg (by decide),if_neg (by decide),if_pos rfl,canL_eq]
   exact hc_w7 s z _ h4 ha
  ·refine .inr (.inr (.inr (.inl ⟨rfl,?_⟩)))
   have h0:=h2 rfl
   rw [if_neg (by decide),if_neg (by decide),if_neg (by decide),if_pos rfl,canL_eq]
   have e:(subs.map (canZ s z)).getD 0 default=canZ s z (subs.getD 0 default):=by
    simp [List.getD_eq_getElem?_getD,h0]
   rw [e]
   exact hc_w8 s z (.mk 4 nm n m w subs) h4 h0 (hL 0 h0)
  ·refine .inr (.inr (.inr (.inr (.inl ⟨rfl,?_⟩))))
   rw [if_neg (by decide),if_neg (by decide),if_neg (by decide),if_neg (by decide),if_pos rfl]
   exact hc_w9 s z (.mk 5 nm n m w subs) (hfld (by decide))
  ·refine .inr (.inr (.inr (.inr (.inr (.inl ⟨rfl,?_⟩)))))
   rw [if_neg (by decide),if_neg (by decide),if_neg (by decide),if_neg (by decide),if_neg (by decide),if_pos rfl,←mxI_eq,←mnI_eq]
   exact hc_w10 s z (.mk 6 nm n m w subs) (hfld (by decide))
  ·refine .inr (.inr (.inr (.inr (.inr (.inr ⟨rfl,?_⟩)))))
   rw [if_neg (by decide),if_neg (by decide),if_neg (by decide),if_neg (by decide),if_neg (by decide),if_neg (by decide)]
   exact hc_w11 s z (.mk 7 nm n m w subs) (hs.2.2.2 _) (hfld (by decide))
theorem hc_weighL (hs:SmallW s z):∀l:List PPred,okL s l→∀k,k < l.length→WCalls s z 85 [.ptr 1000001 0,ppred (l.getD k default)] (ptruth (canZ s z (l.getD k default)))
 | [],_,k,hk=>by simp at hk
 |p :: l,h,k,hk=>by
  rw [okL] at h
  cases k with
  |zero=>exact hc_weigh hs p h.1
  |succ k=>
   have:=hc_weighL hs l h.2 k (by simpa using hk)
   simpa using this
end
end
section
open Go.RowKit
theorem hc_weighA {s:PSchema} {z:PSum} (hs:SmallW s z) (p:PPred) (hp:okP s p) (w m:Nat) (hwm:w≠m):HCalls Tryz.prog 85 [.ptr w 0,ppred p] (wG s z w m) (wMs m) (ptruth (canZ s z p)) (wG s z w m) (wMs m):=by
 have l1:=low_ppred p
 have m1:∀{S:Nat→Prop},S 1000002→RenB (renN [(1000001,w),(1000002,m)]) S (wG s z 1000001 1000002) (wG s z w m):=by
  intro S hS
  refine RenB.cons _ _ _ _ _ ?_ RenB.nil
  unfold wC
  refine RenL.cons (Ren.low _ (.val _)) (RenL.cons (Ren.low _ (.val _)) (RenL.cons (Ren.low _ ((low_pdefs _).2 trivial)) (RenL.cons (Ren.low _ (.val _)) (RenL.cons (Ren.low _ ((low_pints _).2 trivial)) (RenL.cons (Ren.low _ ((low_pints _).2 trivial)) (RenL.cons (Ren.low _ ((low_pshells _).2 trivial)) (RenL.cons (Ren.low _ (.val _)) (RenL.cons (Ren.low _ (.val _)) (RenL.cons (Ren.low _ (.val _)) (RenL.cons (Ren.low _ (.val _)) (RenL.cons (Ren.low _ (.val _)) (RenL.cons (Ren.low _ ((low_pflds _).2 trivial)) (RenL.cons ?_ RenL.nil)))))))))))))
  exact Ren.mref _ hS
 have m2:∀{S:Nat→Prop},RenMs (renN [(1000001,w),(1000002,m)]) S (wMs 1000002) (wMs m):=RenMs.cons _ _ _ _ _ (RenM.low low_ways) RenMs.nil
 refine HCalls.at (hc_weigh hs p hp) [(1000001,w),(1000002,m)] (by simpa using hwm) (by simp [ResIds,wG,wMs]) (by simp [wG]) (by simp [wMs]) ?_ (m1 (by simp [ResIds,wG,wMs])) m2 (Ren.low _ (low_ptruth _)) (m1 (by simp [ResIds,wG,wMs])) m2
 exact RenL.cons (Ren.ptr _ _ (by simp [ResIds,wG,wMs])) (RenL.cons (Ren.low _ (l1.2 trivial)) RenL.nil)
set_option maxRecDepth 10000 in
set_option maxHeartbeats 2000000 in
theorem pw_can {s:PSchema} {z:PSum} (hs:SmallW s z) (p:PPred) (hp:okP s p):PCalls Tryz.prog 31 [pschema s,psum z,ppred p] (· = .tup [pbool (canZ s z p).yes,pbool (canZ s z p).no]):=by
 have h1:=hc_ways 900001
 have h2:=hc_weighA hs p hp 1004 900001 (by decide)
 have hls:=low_schCells s
 have hlz:=low_psumL z
 have hlp:=low_prL p
 refine pcalls_of_pw typeTab_ok Tryz.func31 rfl (by kernel_rfl) (by simp [low_pschema,low_psum,low_ppred]) (by simp [pschema,psum,ppred,PV.ownB]) (by rw [Tryz.ntmps31];simp) ?_
 rw [Tryz.ntmps31,Tryz.results31]
 generalize canZ s z p=t at *
 refine PW.seq ?_
 refine PW.region typeTab_ok (by kernel_rfl) ?_
 refine wg ?_
 refine PW.drawF (fun i id=>Nat.beq i 2 && Nat.ble id 2) typeTab_ok (by kernel_rfl) (by kernel_rfl) (by kernel_rfl) ?_
 refine wk ?_
 exact retP (r:=.tup [pbool t.yes,pbool t.no]) rfl (by simp [low_tup,low_pbool]) rfl
theorem PCalls.weakA {P:Program} {f:FuncId} {args args' : List PV} {post:PV→Prop} (h:PCalls P f args post) (hw:WeakL args' args):PCalls P f args' post:=by
 refine ⟨h.1,fun Φ μ w vs h1 hgl h2=>h.2 Φ μ w vs h1 hgl ⟨by rw [h2.1,hw.len],fun j p v hp hv=>?_⟩⟩
 obtain ⟨q,hq,hpq⟩:=hw.get j p hp
 exact hpq.1 Φ μ v (h2.2 j q v hq hv)
def nColour:ByteArray:=⟨#[99,111,108,111,117,114]⟩
def nWeight:ByteArray:=⟨#[119,101,105,103,104,116]⟩
def nBlue:ByteArray:=⟨#[98,108,117,101]⟩
def nRed:ByteArray:=⟨#[114,101,100]⟩
def exS:PSchema:=⟨1,1,[⟨nColour,2,0,0,[nBlue,nRed]⟩,⟨nWeight,1,0,9,[]⟩]⟩
def exA:PEntry:=⟨1,1,1,0,1,9,1,[3],[⟨nColour,2,0,nRed⟩]⟩
def exB:PEntry:=⟨2,1,1,0,5,1048577,4,[7],[⟨nColour,2,0,nBlue⟩,⟨nWeight,1,2,ByteArray.empty⟩]⟩
def exO:PEntry:=⟨1,1,1,0,1,9,1,[3],[⟨nColour,2,0,nRed⟩,⟨nWeight,1,3,ByteArray.empty⟩]⟩
def exZ:PSum:=⟨2,⟨[3],[7]⟩,[],1,5,1048577,1,4,[⟨2,0,0,[nBlue,nRed]⟩,⟨1,2,2,[]⟩]⟩
def mergeN:Nat→List ByteArray→List ByteArray→List ByteArray
 |0,_,_ => []
 |_+1,[],b=>b
 |_+1,x :: a,[]=>x :: a
 |n+1,x :: a,y :: b=>if Op.bytesLess x.toList y.toList=true then x :: mergeN n a (y :: b) else if x.toList == y.toList then y :: mergeN n a b else y :: mergeN n (x :: a) b
theorem mergeN_W:∀(n:Nat) (a b:List ByteArray),a.length+b.length < n→mergeN n a b=mergeW a b
 |0,a,b,h=>by omega
 |n+1,[],b,h=>by rw [mergeN,mergeW]
 |n+1,x :: a,[],h=>by rw [mergeN,mergeW]
 |n+1,x :: a,y :: b,h=>by
  simp only [List.length_cons] at h
  rw [mergeN,mergeW,mergeN_W n a (y :: b) (by simp only [List.length_cons];omega),mergeN_W n a b (by omega),mergeN_W n (x :: a) b (by simp only [List.length_cons];omega)]
def joinRN (a b:PField):PField:=if a.has=0 then b else if b.has=0 then a else ⟨a.has+b.has,mnI a.lo b.lo,mxI a.hi b.hi,mergeN (a.words.length+b.words.length+1) a.words b.words⟩
theorem joinR_N:joinR=joinRN:=by
 funext a b
 unfold joinR joinRN
 rw [mergeN_W _ _ _ (by omega)]
theorem refL_ex:refL exS [] [exA,exB]=exZ:=by
 unfold refL
 rw [joinR_N]
 kernel_rfl
theorem exE1:entryE exS exA=0:=by kernel_rfl
theorem exE2:entryE exS exB=0:=by kernel_rfl
theorem exC:checkE exS=0:=by kernel_rfl
theorem zOf_ex:zOf exS [] [exA,exB]=(exZ,0):=by
 rw [zOf_ref]
 unfold refOf
 rw [if_neg (by rw [exC];simp),if_neg (by simp [exE1,exE2]),if_neg (by simp),refL_ex]
theorem exEnc:EncOK exZ:=by
 refine ⟨?_,?_,?_,?_,?_,by decide,by decide,by decide,by decide,by decide,?_⟩
 ·intro x hx
  simp only [headZ,exZ,List.mem_cons,List.not_mem_nil,or_false] at hx
  omega
 ·intro x hx
  simp only [exZ,List.mem_cons,List.not_mem_nil,or_false] at hx
  omega
 ·intro x hx
  simp only [exZ,List.mem_cons,List.not_mem_nil,or_false] at hx
  omega
 ·intro x hx
  simp [exZ] at hx
 ·intro x hx
  simp only [exZ,List.mem_cons,List.not_mem_nil,or_false] at hx
  rcases hx with rfl|rfl
  ·exact ⟨⟨by simp,by simp⟩,⟨by simp,by simp⟩,⟨by simp,by simp⟩⟩
  ·exact ⟨⟨by simp,by simp⟩,⟨by simp,by simp⟩,⟨by simp,by simp⟩⟩
 ·intro x hx
  have:x=nBlue∨x=nRed:=by simpa [flW,exZ] using hx
  rcases this with rfl|rfl<;>decide
def exSraw:PV:=.agg [pint 1,pint 1, .sl 2 5 [pstr nColour,pint 2,pint 0,pint 0, .sl 2 1 [pstr nBlue,pstr nRed] none,pstr nWeight,pint 1,pint 0,pint 9, .nilsl] none]
theorem weak_exS:Weak exSraw (pschema exS):=
 .agg (.cons (.refl _) (.cons (.refl _) (.cons (.sl (.cons (.refl _) (.cons (.refl _) (.cons (.refl _) (.cons (.refl _) (.cons (.refl _) (.cons (.refl _) (.cons (.refl _) (.cons (.refl _) (.cons (.refl _) (.cons (.nil 1) .nil))))))))))) .nil)))
set_option maxRecDepth 10000 in
set_option maxHeartbeats 1000000 in
theorem pw_example:PCalls Tryz.prog 52 [] (· = .tup [pschema exS,pentries [exA,exB]]):=by
 refine PCalls.weak ?_
 refine pcalls_of_pw typeTab_ok Tryz.func52 rfl (by kernel_rfl) (by simp) (by simp) (by rw [Tryz.ntmps52];simp) ?_
 rw [Tryz.ntmps52,Tryz.results52]
 refine PW.seq ?_
 refine PW.region typeTab_ok (by kernel_rfl) ?_
 refine wg ?_
 refine PW.region typeTab_ok (by kernel_rfl) ?_
 refine wg ?_
 refine PW.region typeTab_ok (by kernel_rfl) ?_
 refine wg ?_
 refine PW.region typeTab_ok (by kernel_rfl) ?_
 refine wg ?_
 refine PW.drawE typeTab_ok (by kernel_rfl) (by kernel_rfl) (by kernel_rfl) ?_
 refine wk ?_
 refine retP (r:=.tup [exSraw,pentries [exA,exB]]) rfl ?_ (.tup (.cons weak_exS (.cons (.refl _) .nil)))
 simp [low_tup,low_pentries,exSraw,low_agg,low_pint,low_sl,low_pstr,low_nilsl]
theorem ex1:sumB exS 0 exZ=true:=by kernel_rfl
theorem ex2:zBound exS exZ [0] []=(3,0):=by kernel_rfl
def p1:PPred:=.mk 6 nWeight 0 1 ByteArray.empty []
def p2:PPred:=.mk 7 nColour 0 0 nRed []
def p3:PPred:=.mk 5 nWeight 0 0 ByteArray.empty []
theorem ex3:canZ exS exZ p1=⟨false,true⟩:=by kernel_rfl
theorem ex4:canZ exS exZ p2=⟨true,true⟩:=by kernel_rfl
theorem ex5:canZ exS exZ p3=⟨true,true⟩:=by kernel_rfl
theorem ex6:zSeen exZ ⟨0,9⟩=false:=by kernel_rfl
theorem ex7:zSeen exZ ⟨1,0⟩=false:=by kernel_rfl
theorem ex8:zSeen exZ ⟨3,2⟩=true:=by kernel_rfl
theorem ex9:obeysZ exS [] exZ exA=true:=by kernel_rfl
theorem ex10:obeysZ exS [] exZ exO=false:=by kernel_rfl
theorem exF1:findI exS.defs nWeight=1:=by kernel_rfl
theorem exF2:findI exS.defs nColour=0:=by kernel_rfl
theorem smallS_ex:SmallS exS:=by
 have:FewS exS:=fewDefsB_few (by kernel_rfl)
 exact this.small
theorem smallZ_ex:SmallZ exZ:=⟨by decide,by decide,by decide,by decide,fun k=>by
 match k with
 |0=>decide
 |1=>decide
 |k+2=>exact (by decide:(0:Nat)≤1000000)⟩
theorem smallW_ex:SmallW exS exZ:=⟨by decide,by decide,by decide,smallZ_ex.2.2.2.2⟩
theorem okP_ex {op n m:Int} {nm w:ByteArray} (h1:5≤op) (h2:op≤7) (h3:0≤findI exS.defs nm):okP exS (.mk op nm n m w []):=by
 rw [okP]
 exact ⟨⟨by omega,h2⟩,fun h=>by omega,fun _=>h3,by simp,by rw [okL];trivial⟩
def exWant:PV:=.agg [pint 2,pints [3],pints [7], .nilsl,pint 1,pint 5,pint 1048577,pint 1,pint 4, .sl 2 4 [pint 2,pint 0,pint 0, .sl 2 1 [pstr nBlue,pstr nRed] none,pint 1,pint 2,pint 2, .nilsl] none]
theorem weak_want:Weak exWant (psum exZ):=.agg (.cons (.refl _) (.cons (.refl _) (.cons (.refl _) (.cons (.nil 2) (.cons (.refl _) (.cons (.refl _) (.cons (.refl _) (.cons (.refl _) (.cons (.refl _) (.cons (.sl (.cons (.refl _) (.cons (.refl _) (.cons (.refl _) (.cons (.refl _) (.cons (.refl _) (.cons (.refl _) (.cons (.refl _) (.cons (.nil 1) .nil))))))))) .nil))))))))))
def prRaw (p:PPred):PV:=.agg [pint p.op,pstr p.name,pint p.n,pint p.m,pstr p.s, .nilsl]
theorem weak_pr (p:PPred) (h:p.subs = []):Weak (prRaw p) (ppred p):=by
 unfold ppred
 rw [prL_eq,h]
 exact .agg (.cons (.refl _) (.cons (.refl _) (.cons (.refl _) (.cons (.refl _) (.cons (.refl _) (.cons (.nil 6) .nil))))))
theorem canOf {p:PPred} {t:PTruth} (h:canZ exS exZ p=t) (hs:p.subs = []) (ho:okP exS p):PCalls Tryz.prog 31 [pschema exS,psum exZ,prRaw p] (· = .tup [pbool t.yes,pbool t.no]):=by
 have:=pw_can smallW_ex p ho
 rw [h] at this
 exact this.weakA (.cons (.refl _) (.cons (.refl _) (.cons (weak_pr p hs) .nil)))
theorem obeysOf {e:PEntry} {b:Bool} (h:obeysZ exS [] exZ e=b) (hv:e.vec = [3]) (ha:e.attrs.length≤1000000):PCalls Tryz.prog 22 [pschema exS, .nilsl,psum exZ,pentry e] (· = pbool b):=by
 have:=pw_obeys exS [] exZ e smallZ_ex smallS_ex (by rw [hv];decide) ha (by decide) (by decide) (fun k hk=>by simp at hk) (fun _=>by rw [hv];exact ⟨by decide,by decide⟩) (by decide)
 rw [h] at this
 exact this.weakA (.cons (.refl _) (.cons (.nil 1) (.cons (.refl _) (.cons (.refl _) .nil))))
theorem rootI_spec {n:Int} (h0:0≤n) (h1:n≤1152921504606846976):rootI n * rootI n≤n∧n < (rootI n+1) * (rootI n+1):=by
 obtain ⟨k,rfl⟩:∃k:Nat,n=k:=⟨n.toNat,by omega⟩
 have e:(clampI (k:Int) 0 1152921504606846976).toNat=k:=by unfold clampI;omega
 obtain ⟨h3,h4⟩:=rootN_spec (n:=k) (by omega)
 unfold rootI
 rw [e]
 have e1:((rootN k:Nat):Int) * (rootN k:Nat)=((rootN k * rootN k:Nat):Int):=(Int.natCast_mul _ _).symm
 have e2:(((rootN k:Nat):Int)+1) * ((rootN k:Nat)+1)=(((rootN k+1) * (rootN k+1):Nat):Int):=by rw [Int.natCast_mul];rfl
 rw [e1,e2]
 exact ⟨Int.ofNat_le.2 h3,Int.ofNat_lt.2 h4⟩
theorem four_bound {a c:Int} (ha:0≤a∧a≤134217728) (hc:0≤c∧c≤134217728):0≤4 * a * c∧4 * a * c≤1152921504606846976:=by
 have h1:0≤a * c:=Int.mul_nonneg ha.1 hc.1
 have h2:a * c≤134217728 * 134217728:=Int.mul_le_mul ha.2 hc.2 hc.1 (by decide)
 rw [Int.mul_assoc]
 omega
theorem low2_up {a c d:Int} (h0:0≤a) (h1:a≤c) (h2:c≤d) (h3:d≤134217728):lowM 2 a c≤lowM 2 a d:=by
 obtain ⟨t,rfl⟩:∃t,d=c+t:=⟨d - c,by omega⟩
 obtain ⟨b1,b2⟩:=four_bound (a:=a) (c:=c) ⟨h0,by omega⟩ ⟨by omega,by omega⟩
 obtain ⟨b3,b4⟩:=four_bound (a:=a) (c:=c+t) ⟨h0,by omega⟩ ⟨by omega,h3⟩
 obtain ⟨-,r2⟩:=rootI_spec b1 b2
 obtain ⟨r3,-⟩:=rootI_spec b3 b4
 have p1:=(rootI_bound (4 * a * c)).1
 have p2:=(rootI_bound (4 * a * (c+t))).1
 unfold lowM
 rw [if_pos rfl,if_pos rfl]
 generalize rootI (4 * a * c)=r at *
 generalize rootI (4 * a * (c+t))=q at *
 have ht:0≤t:=by omega
 have k1:2 * a < r+1:=by
  rcases Int.lt_or_le (2 * a) (r+1) with h|h
  ·exact h
  ·exfalso
   have e1:(r+1) * (r+1)≤2 * a * (2 * a):=Int.mul_le_mul h h (by omega) (by omega)
   have e2:2 * a * (2 * a)=4 * (a * a):=by grind
   have e3:a * a≤a * c:=Int.mul_le_mul_of_nonneg_left h1 h0
   have e4:4 * a * c=4 * (a * c):=by grind
   omega
 rcases Int.lt_or_le (r+t) q with h|h
 ·exfalso
  have e1:(r+1+t) * (r+1+t)≤q * q:=Int.mul_le_mul (by omega) (by omega) (by omega) (by omega)
  have e2:(r+1+t) * (r+1+t)=(r+1) * (r+1)+2 * (t * (r+1))+t * t:=by grind
  have e3:4 * a * (c+t)=4 * a * c+2 * (t * (2 * a)):=by grind
  have e4:t * (2 * a)≤t * (r+1):=Int.mul_le_mul_of_nonneg_left (by omega) ht
  have e5:0≤t * t:=Int.mul_nonneg ht ht
  omega
 ·omega
theorem low2_down {a c d:Int} (h0:0≤d) (h1:d≤c) (h2:c≤a) (h3:a≤134217728):lowM 2 a c≤lowM 2 a d:=by
 obtain ⟨t,rfl⟩:∃t,c=d+t:=⟨c - d,by omega⟩
 obtain ⟨b1,b2⟩:=four_bound (a:=a) (c:=d) ⟨by omega,h3⟩ ⟨by omega,by omega⟩
 obtain ⟨b3,b4⟩:=four_bound (a:=a) (c:=d+t) ⟨by omega,h3⟩ ⟨by omega,by omega⟩
 obtain ⟨r1,-⟩:=rootI_spec b1 b2
 obtain ⟨-,r4⟩:=rootI_spec b3 b4
 have p1:=(rootI_bound (4 * a * d)).1
 have p2:=(rootI_bound (4 * a * (d+t))).1
 unfold lowM
 rw [if_pos rfl,if_pos rfl]
 generalize rootI (4 * a * d)=r at *
 generalize rootI (4 * a * (d+t))=q at *
 have ht:0≤t:=by omega
 have k1:r≤a+d:=by
  rcases Int.lt_or_le (a+d) r with h|h
  ·exfalso
   have e1:(a+d+1) * (a+d+1)≤r * r:=Int.mul_le_mul (by omega) (by omega) (by omega) (by omega)
   have e2:(a+d+1) * (a+d+1)=4 * a * d+(a - d) * (a - d)+2 * (a+d)+1:=by grind
   have e3:0≤(a - d) * (a - d):=Int.mul_nonneg (by omega) (by omega)
   omega
  ·exact h
 rcases Int.lt_or_le q (r+t) with h|h
 ·exfalso
  have e1:(q+1) * (q+1)≤(r+t) * (r+t):=Int.mul_le_mul (by omega) (by omega) (by omega) (by omega)
  have e2:(r+t) * (r+t)=r * r+t * (2 * r+t):=by grind
  have e3:4 * a * (d+t)=4 * a * d+t * (4 * a):=by grind
  have e4:t * (2 * r+t)≤t * (4 * a):=Int.mul_le_mul_of_nonneg_left (by omega) ht
  omega
 ·omega
theorem lowM_away (m:Int) {a c d:Int} (ha:0≤a∧a≤134217728) (hd:0≤d∧d≤134217728) (h:(a≤c∧c≤d)∨(d≤c∧c≤a)):lowM m a c≤lowM m a d:=by
 by_cases hm:m=2
 ·subst hm
  rcases h with ⟨h1,h2⟩|⟨h1,h2⟩
  ·exact low2_up ha.1 h1 h2 hd.2
  ·exact low2_down hd.1 h1 h2 ha.2
 ·unfold lowM
  rw [if_neg hm,if_neg hm]
  omega
theorem gap_away (m:Int) {a l1 h1 l2 h2:Int} (ha:0≤a∧a≤134217728) (k1:0≤l2) (k2:l2≤l1) (k3:l1≤h1) (k4:h1≤h2) (k5:h2≤134217728):gapM m l2 h2 a≤gapM m l1 h1 a:=by
 unfold gapM
 refine lowM_away m ha ?_ ?_<;>unfold clampI<;>omega
theorem lowF_away (m:Int) {A B:List PShell} {keys:List Int} (hk:∀k,0≤keys.getD k default∧keys.getD k default≤134217728):∀n,(∀k,k < n→0≤(B.getD k default).lo∧(B.getD k default).lo≤(A.getD k default).lo∧(A.getD k default).lo≤(A.getD k default).hi∧(A.getD k default).hi≤(B.getD k default).hi∧(B.getD k default).hi≤134217728)→lowF m B keys n≤lowF m A keys n
 |0,_=>Int.le_refl _
 |n+1,h=>by
  rw [lowF_succ,lowF_succ]
  have h1:=lowF_away m hk n fun k hk=>h k (by omega)
  obtain ⟨a1,a2,a3,a4,a5⟩:=h n (by omega)
  have h2:=gap_away m (hk n) a1 a2 a3 a4 a5
  omega
theorem addM_away (m:Int) {n p d e:Int} (h:n≤p) (h0:0≤d) (h1:d≤e):addM m n d≤addM m p e:=by
 have h2:d * d≤e * e:=Int.mul_le_mul h1 h1 h0 (by omega)
 unfold addM
 split
 ·omega
 ·split<;>omega
theorem keyD_away (m:Int) (f g:Nat→Int):∀(l:List Nat) (n p:Int),n≤p→(∀k∈l,0≤f k∧f k≤g k)→(l.map f).foldl (addM m) n≤(l.map g).foldl (addM m) p
 | [],n,p,h,_=>h
 |k :: l,n,p,h,hl=>by
  obtain ⟨h1,h2⟩:=hl k (by simp)
  exact keyD_away m f g l _ _ (addM_away m h h1 h2) fun x hx=>hl x (by simp [hx])
structure BoxIn (a b:PBox):Prop where
 ga:boxB a=true
 gb:boxB b=true
 lo:a.lo.length=b.lo.length
 hi:a.hi.length=b.lo.length
 los:∀k,k < b.lo.length→b.lo.getD k default≤a.lo.getD k default∧a.lo.getD k default≤b.hi.getD k default
 his:∀k,k < b.lo.length→b.lo.getD k default≤a.hi.getD k default∧a.hi.getD k default≤b.hi.getD k default
theorem boxIn_iff {a b:PBox} : boxIn a b=true↔BoxIn a b:=by
 simp only [boxIn,boxHas,hasK,Bool.and_eq_true,decide_eq_true_eq,List.all_eq_true,List.mem_range]
 constructor
 ·rintro ⟨h1,⟨h2,h3,h4⟩,-,h6,h7⟩
  exact ⟨h1,h2,h3,h6,fun k hk=>h4 k (by omega),fun k hk=>h7 k (by omega)⟩
 ·rintro ⟨h1,h2,h3,h4,h5,h6⟩
  exact ⟨h1,⟨h2,h3,fun k hk=>h5 k (by omega)⟩,h2,h4,fun k hk=>h6 k (by omega)⟩
theorem boxB_le {b:PBox} (h:boxB b=true):b.lo.length=b.hi.length∧∀k,k < b.lo.length→b.lo.getD k default≤b.hi.getD k default:=by
 simp only [boxB,Bool.and_eq_true,decide_eq_true_eq,List.all_eq_true,List.mem_range] at h
 exact ⟨h.2.2.1,h.2.2.2⟩
theorem BoxIn.rfl' {b:PBox} (h:boxB b=true):BoxIn b b:=by
 obtain ⟨h1,h2⟩:=boxB_le h
 exact ⟨h,h,rfl,h1.symm,fun k hk=>⟨Int.le_refl _,h2 k hk⟩,fun k hk=>⟨h2 k hk,Int.le_refl _⟩⟩
theorem BoxIn.trans {a b c:PBox} (h:BoxIn a b) (h2:BoxIn b c):BoxIn a c:=by
 have e1:=h.lo
 have e2:=h2.lo
 have e3:=h.hi
 refine ⟨h.ga,h2.gb,by omega,by omega,fun k hk=>?_,fun k hk=>?_⟩
 ·have a1:=h.los k (by omega)
  have a2:=h2.los k hk
  have a3:=h2.his k hk
  omega
 ·have a1:=h.his k (by omega)
  have a2:=h2.los k hk
  have a3:=h2.his k hk
  omega
theorem BoxIn.has {a b:PBox} {v:List Int} (h:BoxIn a b) (hv:boxHas a v=true):boxHas b v=true:=by
 simp only [boxHas,hasK,Bool.and_eq_true,decide_eq_true_eq,List.all_eq_true,List.mem_range] at hv ⊢
 obtain ⟨-,h2,h3⟩:=hv
 have e1:=h.lo
 refine ⟨h.gb,by omega,fun k hk=>?_⟩
 have a1:=h.los k (by omega)
 have a2:=h.his k (by omega)
 have a3:=h3 k hk
 omega
theorem near_away {m:Int} {a b:PBox} {v:List Int} (h:BoxIn a b) (hv:vecB v=true) (hl:v.length=b.lo.length) (hm:keyB m=true):(boxNear m a v).2=0∧(boxNear m b v).2=0∧(boxNear m b v).1≤(boxNear m a v).1:=by
 have e1:=h.lo
 unfold boxNear
 rw [if_pos (by simp only [h.ga,hv,hm,Bool.and_true,Bool.true_and,decide_eq_true_eq];omega),if_pos (by simp only [h.gb,hv,hm,Bool.and_true,Bool.true_and,decide_eq_true_eq];omega)]
 refine ⟨rfl,rfl,?_⟩
 refine keyD_away m _ _ _ 0 0 (Int.le_refl _) fun k hk=>?_
 have hk' : k < v.length:=by simpa using hk
 have a1:=h.los k (by omega)
 have a2:=h.his k (by omega)
 unfold gapD
 omega
theorem badF_iff {ca cb:Int} {x y:PField} : badF ca cb x y=false↔x.has≤y.has∧ca - x.has≤cb - y.has∧(0 < x.has→y.lo≤x.lo∧x.hi≤y.hi∧∀w∈x.words,hasB y.words w=true):=by
 have e:(x.words.any fun w => !hasB y.words w)=false↔∀w∈x.words,hasB y.words w=true:=by
  rw [List.any_eq_false]
  constructor
  ·intro h w hw
   have:=h w hw
   simpa using this
  ·intro h w hw
   rw [h w hw];decide
 simp only [badF,Bool.or_eq_false_iff,Bool.and_eq_false_iff,decide_eq_false_iff_not,e]
 constructor
 ·rintro ⟨h1,h2,h3⟩
  refine ⟨by omega,by omega,fun h0=>?_⟩
  rcases h3 with h3|⟨h3,h4,h5⟩
  ·omega
  ·exact ⟨by omega,by omega,h5⟩
 ·rintro ⟨h1,h2,h3⟩
  refine ⟨by omega,by omega,?_⟩
  by_cases h0:0 < x.has
  ·obtain ⟨a,b,c⟩:=h3 h0
   exact .inr ⟨by omega,by omega,c⟩
  ·exact .inl h0
theorem hasB_iff {l:List ByteArray} {w:ByteArray} : hasB l w=true↔w∈l:=by
 constructor
 ·intro h
  obtain ⟨x,hx,he⟩:=List.any_eq_true.1 h
  have:x=w:=toList_inj (by simpa [eqB] using he)
  exact this ▸ hx
 ·intro h
  exact List.any_eq_true.2 ⟨w,h,by simp [eqB]⟩
structure WithZ (s:PSchema) (a b:PSum):Prop where
 count:a.count≤b.count
 box:BoxIn a.box b.box
 num:a.shells.length=b.shells.length
 sh:∀k,k < a.shells.length→(b.shells.getD k default).lo≤(a.shells.getD k default).lo∧(a.shells.getD k default).hi≤(b.shells.getD k default).hi
 frm:b.fromLo≤a.fromLo∧a.fromHi≤b.fromHi
 to:a.toHi≤b.toHi
 born:b.bornLo≤a.bornLo∧a.bornHi≤b.bornHi
 fld:∀k,k < s.defs.length→badF a.count b.count (a.fields.getD k default) (b.fields.getD k default)=false
theorem withinZ_iff {s:PSchema} {a b:PSum} : withinZ s a b=true↔WithZ s a b:=by
 simp only [withinZ,shellOut,Bool.and_eq_true,decide_eq_true_eq,List.all_eq_true,List.mem_range,boxIn_iff,Bool.not_eq_true']
 constructor
 ·rintro ⟨h1,h2,h3,h4,h5,h6,h7,h8,h9,h10⟩
  exact ⟨h1,h2,h3,h4,⟨h5,h6⟩,h7,⟨h8,h9⟩,h10⟩
 ·rintro ⟨h1,h2,h3,h4,⟨h5,h6⟩,h7,⟨h8,h9⟩,h10⟩
  exact ⟨h1,h2,h3,h4,h5,h6,h7,h8,h9,h10⟩
theorem with_self {s:PSchema} {n:Int} {a:PSum} (h:SumV s n a):withinZ s a a=true:=by
 refine withinZ_iff.2 ⟨Int.le_refl _,BoxIn.rfl' h.box,rfl,fun k _=>⟨Int.le_refl _,Int.le_refl _⟩,⟨Int.le_refl _,Int.le_refl _⟩,Int.le_refl _,⟨Int.le_refl _,Int.le_refl _⟩,fun k _=>?_⟩
 exact badF_iff.2 ⟨Int.le_refl _,Int.le_refl _,fun _=>⟨Int.le_refl _,Int.le_refl _,fun w hw=>hasB_iff.2 hw⟩⟩
theorem with_trans {s:PSchema} {a b c:PSum} (h:WithZ s a b) (g:WithZ s b c):withinZ s a c=true:=by
 have e:=h.num
 refine withinZ_iff.2 ⟨Int.le_trans h.count g.count,h.box.trans g.box,h.num.trans g.num,fun k hk=>?_,⟨Int.le_trans g.frm.1 h.frm.1,Int.le_trans h.frm.2 g.frm.2⟩,Int.le_trans h.to g.to,⟨Int.le_trans g.born.1 h.born.1,Int.le_trans h.born.2 g.born.2⟩,fun k hk=>?_⟩
 ·have h1:=h.sh k hk
  have h2:=g.sh k (by omega)
  omega
 ·obtain ⟨a1,a2,a3⟩:=badF_iff.1 (h.fld k hk)
  obtain ⟨b1,b2,b3⟩:=badF_iff.1 (g.fld k hk)
  refine badF_iff.2 ⟨by omega,by omega,fun h0=>?_⟩
  obtain ⟨c1,c2,c3⟩:=a3 h0
  obtain ⟨d1,d2,d3⟩:=b3 (by omega)
  exact ⟨by omega,by omega,fun w hw=>d3 w (hasB_iff.1 (c3 w hw))⟩
end
section
open Go.RowKit
variable {s:PSchema} {a b:PSum} {n:Int}
theorem with_obeys (h:WithZ s a b) (ha:SumV s n a) {pv:List (List Int)} {e:PEntry} (ho:obeysZ s pv a e=true):obeysZ s pv b e=true:=by
 simp only [obeysZ,withinB,obeyK,Bool.and_eq_true,decide_eq_true_eq,List.all_eq_true,List.mem_range] at ho ⊢
 obtain ⟨h1,h2,h3,h4,h5,h6,h7,h8⟩:=ho
 have f1:=h.frm
 have f2:=h.to
 have f3:=h.born
 have f4:=h.num
 refine ⟨h1,h.box.has h2,by omega,fun k hk=>?_,by omega,by omega,by omega,fun k hk=>?_⟩
 ·have g1:=h4 k hk
  have g2:=h.sh k (by omega)
  omega
 ·have g1:=h8 k hk
  obtain ⟨a1,a2,a3⟩:=badF_iff.1 (h.fld k hk)
  obtain ⟨o1,o2,o3⟩:=fieldB_ok (ha.field k hk)
  have o4:=o1.has
  unfold obeyF at g1 ⊢
  split at g1
  ·rename_i q
   rw [if_pos q]
   simp only [Bool.not_eq_true',decide_eq_false_iff_not] at g1 ⊢
   omega
  ·rename_i q
   rw [if_neg q]
   split at g1
   ·cases g1
   ·rename_i q2
    rw [if_neg (by omega)]
    obtain ⟨c1,c2,c3⟩:=a3 (by omega)
    split at g1
    ·rename_i q3
     rw [if_pos q3]
     simp only [withinB,Bool.and_eq_true,decide_eq_true_eq] at g1 ⊢
     omega
    ·rename_i q3
     rw [if_neg q3]
     split at g1
     ·rename_i q4
      rw [if_pos q4]
      exact c3 _ (hasB_iff.1 g1)
     ·rename_i q4
      rw [if_neg q4]
theorem with_bound (h:WithZ s a b) (ha:SumV s n a) (hb:SumV s n b) (hm:keyB s.metric=true) {pv:List (List Int)} {v:List Int} (hv:vecB v=true) (hl:(v.length:Int)=s.dims) (hp:∀k,k < pv.length→vecB (pv.getD k default)=true) (hn:a.shells.length=pv.length) :
  (zBound s a v (keysP s.metric pv v)).2=0∧(zBound s b v (keysP s.metric pv v)).2=0∧(zBound s b v (keysP s.metric pv v)).1≤(zBound s a v (keysP s.metric pv v)).1:=by
 have f4:=h.num
 have hbd:=hb.dims
 obtain ⟨n1,n2,n3⟩:=near_away (m:=s.metric) h.box hv (by omega) hm
 have hK:∀k,0≤(keysP s.metric pv v).getD k default∧(keysP s.metric pv v).getD k default≤134217728:=fun k=>by
  rcases Nat.lt_or_ge k pv.length with hk|hk
  ·rw [keysP_get hk];exact keyV_bound (hp k hk) hv
  ·rw [List.getD_eq_getElem?_getD,List.getElem?_eq_none (by rw [keysP_len];exact hk)]
   exact ⟨Int.le_refl _,by decide⟩
 have hA:∀z:PSum,shellsB z.shells=true→z.shells.length=pv.length→askB s.metric z.shells (keysP s.metric pv v)=true:=fun z hz hzn=>by
  simp only [askB,hm,hz,Bool.true_and,Bool.and_eq_true,decide_eq_true_eq,keysP_len,List.all_eq_true,hzn,true_and]
  intro x hx
  obtain ⟨k,hk,rfl⟩:=List.getElem_of_mem hx
  have:=hK k
  rw [getD_atW hk] at this
  rw [hasP,Bool.and_eq_true]
  exact ⟨decide_eq_true this.1,decide_eq_true this.2⟩
 have l1:=hA a ha.shells hn
 have l2:=hA b hb.shells (by omega)
 have hs:∀z:PSum,shellsB z.shells=true→∀k,k < z.shells.length→0≤(z.shells.getD k default).lo∧(z.shells.getD k default).lo≤(z.shells.getD k default).hi∧(z.shells.getD k default).hi≤134217728:=fun z hz k hk=>by
  simp only [shellsB,Bool.and_eq_true,List.all_eq_true] at hz
  exact shellB_iff.1 (hz.1 _ (getD_mem hk))
 have l3:=lowF_away s.metric (A:=a.shells) (B:=b.shells) hK a.shells.length fun k hk=>by
  have g1:=hs a ha.shells k hk
  have g2:=hs b hb.shells k (by omega)
  have g3:=h.sh k hk
  omega
 unfold zBound lowP
 rw [if_pos l1,if_pos l2]
 simp only
 rw [if_neg (by simp [n1]),if_neg (by simp [n2])]
 refine ⟨rfl,rfl,?_⟩
 show max _ _≤max _ _
 rw [←f4]
 omega
end
section
open Go.RowKit
mutual
/-- antiquaryref17.Parts. -/
def partsR:PPred→List PPred
 | .mk op nm n m w subs=>(partsG subs [.mk op nm n m w subs]).take 1000
def partsG:List PPred→List PPred→List PPred
 | [],out=>out
 |q :: l,out=>if out.length < 1000 then partsG l (out ++ partsR q) else out
end
theorem partsR_eq (p:PPred):partsR p=(partsG p.subs [p]).take 1000:=by
 cases p with
 |mk op nm n m w subs=>rw [partsR];rfl
theorem partsR_len (p:PPred):(partsR p).length≤1000:=by
 rw [partsR_eq,List.length_take];omega
theorem partsG_stop:∀(l out:List PPred),1000≤out.length→partsG l out=out
 | [],out,_=>by rw [partsG]
 |q :: l,out,h=>by rw [partsG,if_neg (by omega)]
theorem partsG_app:∀(l k out:List PPred),partsG (l ++ k) out=partsG k (partsG l out)
 | [],k,out=>by rw [List.nil_append,partsG]
 |q :: l,k,out=>by
  rw [List.cons_append,partsG,partsG]
  split
  ·exact partsG_app l k _
  ·rw [partsG_stop _ _ (by omega)]
theorem partsG_one (q:PPred) (out:List PPred):partsG [q] out=if out.length < 1000 then out ++ partsR q else out:=by
 rw [partsG]
 split
 ·rw [partsG]
 ·rfl
theorem partsG_len:∀(l out:List PPred),out.length≤2000→(partsG l out).length≤2000
 | [],out,h=>by rw [partsG];exact h
 |q :: l,out,h=>by
  rw [partsG]
  split
  ·refine partsG_len l _ ?_
   have:=partsR_len q
   rw [List.length_append];omega
  ·exact h
theorem partsG_sub:∀(l out:List PPred),∀x∈out,x∈partsG l out
 | [],out,x,h=>by rw [partsG];exact h
 |q :: l,out,x,h=>by
  rw [partsG]
  split
  ·exact partsG_sub l _ x (by simp [h])
  ·exact h
theorem partsG_ge:∀(l out:List PPred),out.length≤(partsG l out).length
 | [],out=>by rw [partsG];exact Nat.le_refl _
 |q :: l,out=>by
  rw [partsG]
  split
  ·have:=partsG_ge l (out ++ partsR q)
   rw [List.length_append] at this;omega
  ·exact Nat.le_refl _
theorem partsR_self (p:PPred):p∈partsR p:=by
 rw [partsR_eq]
 have h:=partsG_ge p.subs [p]
 have:∀(l:List PPred) (out:List PPred) (x:PPred) (r:List PPred),out=x :: r→∃r',partsG l out=x :: r':=fun l=>by
  induction l with
  |nil=>intro out x r h;exact ⟨r,by rw [partsG,h]⟩
  |cons q l ih=>
   intro out x r h
   rw [partsG]
   split
   ·exact ih _ x (r ++ partsR q) (by rw [h];rfl)
   ·exact ⟨r,h⟩
 obtain ⟨r',e⟩:=this p.subs [p] p [] rfl
 rw [e]
 simp
theorem partsG_all:∀(l out:List PPred),(partsG l out).length < 1000→out.length+l.length≤(partsG l out).length∧∀q∈l,(partsR q).length≤(partsG l out).length∧∀x∈partsR q,x∈partsG l out
 | [],out,h=>by rw [partsG] at *; exact ⟨by simp,by simp⟩
 |q :: l,out,h=>by
  have hlt:out.length < 1000:=by
   rcases Nat.lt_or_ge out.length 1000 with h5|h5
   ·exact h5
   ·rw [partsG_stop _ _ h5] at h;omega
  rw [partsG,if_pos hlt] at h ⊢
  obtain ⟨i1,i2⟩:=partsG_all l _ h
  have g:=partsG_ge l (out ++ partsR q)
  have hq:0 < (partsR q).length:=List.length_pos_of_mem (partsR_self q)
  rw [List.length_append] at i1 g
  refine ⟨by rw [List.length_cons];omega,fun r hr=>?_⟩
  rcases List.mem_cons.1 hr with rfl|hr
  ·exact ⟨by omega,fun x hx=>partsG_sub l _ x (by simp [hx])⟩
  ·exact i2 r hr
def formB (p:PPred):Bool:=
 if (p.op < 5∧0 < p.name.size)∨(p.op≠6∧(p.n≠0∨p.m≠0))∨(p.op≠7∧0 < p.s.size) then false
 else if p.m < p.n then false
 else if p.op=2∨p.op=3 then decide (0 < p.subs.length)
 else if p.op=4 then decide (p.subs.length=1) else decide (p.subs.length=0)
def chk1 (s:PSchema) (p:PPred):Int:=
 if p.op < 1∨7 < p.op then 1
 else if formB p=false then 3
 else if p.op < 5 then 0
 else if findI s.defs p.name < 0 then 5
 else if (p.op=6∧(s.defs.getD (findI s.defs p.name).toNat default).kind≠1)∨(p.op=7∧(s.defs.getD (findI s.defs p.name).toNat default).kind≠2) then 130 else 0
def checkP (s:PSchema) (p:PPred):Int:=
 if 64 < (partsR p).length then 2 else ((partsR p).find? fun x=>decide (chk1 s x≠0)).elim 0 (chk1 s)
theorem checkP_ok {s:PSchema} {p:PPred} (h:checkP s p=0):(partsR p).length≤64∧∀x∈partsR p,chk1 s x=0:=by
 unfold checkP at h
 split at h
 ·cases h
 ·rename_i h1
  refine ⟨by omega,fun x hx=>?_⟩
  cases e:(partsR p).find? fun x=>decide (chk1 s x≠0) with
  |none=>
   have:=List.find?_eq_none.1 e x hx
   simpa using this
  |some y=>
   rw [e] at h
   have:=List.find?_some e
   simp only [Option.elim] at h
   simp [h] at this
theorem chk1_ok {s:PSchema} {p:PPred} (h:chk1 s p=0):(1≤p.op∧p.op≤7)∧(p.op=4→0 < p.subs.length)∧(5≤p.op→0≤findI s.defs p.name)∧(p.op=7→(s.defs.getD (findI s.defs p.name).toNat default).kind=2):=by
 unfold chk1 at h
 split at h
 ·cases h
 ·rename_i h1
  split at h
  ·cases h
  ·rename_i h2
   have h3:p.op=4→0 < p.subs.length:=fun h4=>by
    rw [Bool.not_eq_false] at h2
    unfold formB at h2
    (repeat' split at h2)<;>first|(cases h2;done)|omega|(have:=of_decide_eq_true h2;omega)
   split at h
   ·exact ⟨by omega,h3,fun _=>by omega,fun _=>by omega⟩
   ·split at h
    ·cases h
    ·split at h
     ·cases h
     ·rename_i h6
      refine ⟨by omega,h3,fun _=>by omega,fun h7=>?_⟩
      rcases Classical.em ((s.defs.getD (findI s.defs p.name).toNat default).kind=2) with hk|hk
      ·exact hk
      ·exact absurd (.inr ⟨h7,hk⟩) h6
mutual
theorem ok_parts {s:PSchema} : ∀p:PPred,(partsR p).length≤64→(∀x∈partsR p,chk1 s x=0)→okP s p∧okK s p
 | .mk op nm n m w subs,hl,hx=>by
  have h0:=chk1_ok (hx _ (partsR_self _))
  obtain ⟨h1,h2,h3,h4⟩:=h0
  rw [partsR] at hl hx
  have hg:(partsG subs [.mk op nm n m w subs]).length < 1000:=by rw [List.length_take] at hl;omega
  rw [List.take_of_length_le (by omega)] at hl hx
  obtain ⟨g1,g2⟩:=partsG_all subs _ hg
  have hL:=ok_partsL subs (fun q hq=>by have:=(g2 q hq).1;omega) (fun q hq x hxx=>hx x ((g2 q hq).2 x hxx))
  rw [okP,okK]
  simp only [List.length_cons,List.length_nil] at g1
  exact ⟨⟨h1,h2,h3,by omega,hL.1⟩,h4,hL.2⟩
theorem ok_partsL {s:PSchema} : ∀l:List PPred,(∀q∈l,(partsR q).length≤64)→(∀q∈l,∀x∈partsR q,chk1 s x=0)→okL s l∧okKL s l
 | [],_,_=>by rw [okL,okKL];exact ⟨trivial,trivial⟩
 |p :: l,h1,h2=>by
  have a:=ok_parts p (h1 p (by simp)) (h2 p (by simp))
  have b:=ok_partsL l (fun q hq=>h1 q (by simp [hq])) (fun q hq=>h2 q (by simp [hq]))
  rw [okL,okKL]
  exact ⟨⟨a.1,b.1⟩,a.2,b.2⟩
end
theorem check_ok {s:PSchema} {p:PPred} (h:checkP s p=0):okP s p∧okK s p:=by
 obtain ⟨h1,h2⟩:=checkP_ok h
 exact ok_parts p h1 h2
mutual
/-- antiquaryref17.Few. -/
def fewPB:PPred→Int→Bool
 | .mk op nm n m w subs,d=>if d < 1∨100 < (partsR (.mk op nm n m w subs)).length then false else fewPBL subs (d - 1)
def fewPBL:List PPred→Int→Bool
 | [],_=>true
 |p :: l,d=>fewPB p d && fewPBL l d
end
theorem fewPBL_eq:∀(l:List PPred) (d:Int),fewPBL l d=l.all fun q=>fewPB q d
 | [],d=>by rw [fewPBL];rfl
 |p :: l,d=>by rw [fewPBL,fewPBL_eq l d];rfl
mutual
/-- Conditions with lists that can be. -/
def lenP:PPred→Prop
 | .mk op nm n m w subs=>subs.length≤20000000000000∧lenPL subs
def lenPL:List PPred→Prop
 | []=>True
 |p :: l=>lenP p∧lenPL l
end
theorem lenPL_iff:∀{l:List PPred},lenPL l↔∀p∈l,lenP p
 | []=>by rw [lenPL];simp
 |p :: l=>by rw [lenPL,lenPL_iff (l:=l)];simp
end
section
open Go.ChangeShapes Go.WideShapes Go.ChangeAt Go.RowKit
theorem GoodP.lens {p:PPred} (h:GoodP p):lenP p:=by
 induction h with
 |mk h1 h2 h3 h4 h5 ih=>
  have r:=reach_eq
  rw [lenP]
  exact ⟨by omega,lenPL_iff.2 ih⟩
end
section
open Go.RowKit
def fewEs (l:List PEntry) (m:Int):Bool:=decide ((l.length:Int)≤m) && l.all fewB
set_option maxRecDepth 10000 in
set_option maxHeartbeats 1000000 in
theorem pw_fewEs (l:List PEntry) (m:Int) (hl:l.length≤20000000000000) (h:∀e∈l,e.attrs.length≤20000000000000∧e.vec.length≤20000000000000):PCalls Tryz.prog 12 [pentries l,pint m] (· = pbool (fewEs l m)):=by
 have hll:Low (pentries l):=(low_pentries l).2 trivial
 have g:∀w,fewEs l m=w→pbool w=pbool (fewEs l m):=fun v h=>by rw [h]
 refine pcalls_of_pw typeTab_ok Tryz.func12 rfl (by kernel_rfl) (by simp [low_pint,low_pints,low_pstr,low_pbool,low_pbox,low_pvecs,low_pentry,low_pentries,low_psum,low_pschema,low_pshells,low_pstrs,low_pfld,low_pdef]) (by simp [pint,pints,pstr,pbool,pbox,pvecs,pentry,pentries,psum,psumL,pschema,pshells,pstrs,pfld,pfldL,pdefL,PV.ownB]) (by rw [Tryz.ntmps12];simp) ?_
 rw [Tryz.ntmps12,Tryz.results12]
 by_cases e1:(l.length:Int) > m
 ·refine wk ?_
  exact retP rfl (by exact lw) (g _ (by rw [fewEs,decide_eq_false (by omega),Bool.false_and]))
 refine wk ?_
 refine PW.loop (fun k:Nat=>(bot.put 0 (pentries l) |>.put 5 (pint k))) (fun k=>k≤l.length∧∀j,j < k→fewB (l.getD j default)=true) (fun k=>l.length - k) 0 ⟨by omega,by simp⟩ ?_ ?_
 ·exact sb
 rintro k ⟨hk,ha⟩
 by_cases hlt:k < l.length
 ·obtain ⟨q1,q2⟩:=h _ (getD_mem hlt)
  have c1:=pw_few (l.getD k default) q1 q2
  have hle:=low_entCells (l.getD k default)
  cases e2:fewB (l.getD k default) with
  |false=>
   rw [e2] at c1
   have hall:l.all fewB=false:=by rw [List.all_eq_false];exact ⟨_,getD_mem hlt,by rw [e2];decide⟩
   refine wk ?_
   exact retP rfl (by exact lw) (g _ (by rw [fewEs,hall,Bool.and_false]))
  |true=>
   rw [e2] at c1
   refine wk ?_
   refine loopP (k+1) ⟨by omega,fun j hj=>?_⟩ (by omega) ?_
   ·rcases Nat.lt_succ_iff_lt_or_eq.1 hj with h|h
    ·exact ha j h
    ·rw [h];exact e2
   ·exact sb
 ·have hall:l.all fewB=true:=by
   rw [List.all_eq_true]
   intro e he
   obtain ⟨q,hq,rfl⟩:=List.getElem_of_mem he
   have:=ha q (by omega)
   rwa [getD_atW hq] at this
  refine wk ?_
  exact retP rfl (by exact lw) (g _ (by rw [fewEs,hall,decide_eq_true (by omega)];rfl))
theorem fewEs_get {l:List PEntry} {m:Int} (h:fewEs l m=true):(l.length:Int)≤m∧∀e∈l,e.vec.length≤40∧e.attrs.length≤20∧∀a∈e.attrs,a.s.size≤300:=by
 simp only [fewEs,Bool.and_eq_true,decide_eq_true_eq,List.all_eq_true] at h
 refine ⟨h.1,fun e he=>?_⟩
 have h2:=h.2 e he
 simp only [fewB,Bool.and_eq_true,decide_eq_true_eq,List.all_eq_true,smallA] at h2
 obtain ⟨a,b,c⟩:=h2
 rw [List.take_of_length_le (by omega)] at a
 exact ⟨b,c,fun x hx=>(a x hx).2⟩
theorem mergeW_comm {a b:List ByteArray} (ha:Asc a) (hb:Asc b):mergeW a b=mergeW b a:=
 (mergeW_spec a b ha hb).1.ext (mergeW_spec b a hb ha).1 fun x=>by rw [(mergeW_spec a b ha hb).2,(mergeW_spec b a hb ha).2,Or.comm]
theorem mergeW_assoc {a b c:List ByteArray} (ha:Asc a) (hb:Asc b) (hc:Asc c):mergeW (mergeW a b) c=mergeW a (mergeW b c):=by
 obtain ⟨h1,m1⟩:=mergeW_spec a b ha hb
 obtain ⟨h2,m2⟩:=mergeW_spec b c hb hc
 obtain ⟨h3,m3⟩:=mergeW_spec _ c h1 hc
 obtain ⟨h4,m4⟩:=mergeW_spec a _ ha h2
 refine h3.ext h4 fun x=>?_
 rw [m3,m1,m4,m2,or_assoc]
theorem joinR_assoc {a b c:PField} (ha:FieldOK a) (hb:FieldOK b) (hc:FieldOK c):joinR (joinR a b) c=joinR a (joinR b c):=by
 have h1:=ha.has
 have h2:=hb.has
 have h3:=hc.has
 by_cases q1:a.has=0
 ·simp only [joinR,if_pos q1]
 ·by_cases q2:b.has=0
  ·simp only [joinR,if_neg q1,if_pos q2]
  ·by_cases q3:c.has=0
   ·have e1:a.has+b.has≠0:=by omega
    simp only [joinR,if_neg q1,if_neg q2,if_pos q3,if_neg e1]
   ·have e1:a.has+b.has≠0:=by omega
    have e2:b.has+c.has≠0:=by omega
    simp only [joinR,if_neg q1,if_neg q2,if_neg q3,if_neg e1,if_neg e2,mnI_eq,mxI_eq,mergeW_assoc ha.asc hb.asc hc.asc,PField.mk.injEq,and_true]
    omega
theorem joinR_comm {a b:PField} (ha:FieldOK a) (hb:FieldOK b):joinR a b=joinR b a:=by
 by_cases q1:a.has=0
 ·by_cases q2:b.has=0
  ·obtain ⟨a1,a2,a3⟩:=ha.none q1
   obtain ⟨b1,b2,b3⟩:=hb.none q2
   simp only [joinR,if_pos q1,if_pos q2]
   cases a;cases b;simp_all
  ·simp only [joinR,if_pos q1,if_neg q2]
 ·by_cases q2:b.has=0
  ·simp only [joinR,if_neg q1,if_pos q2]
  ·simp only [joinR,if_neg q1,if_neg q2,mnI_eq,mxI_eq,mergeW_comm ha.asc hb.asc,PField.mk.injEq,and_true]
   omega
theorem fieldOfP_app (d:PDef) (X Y:List PEntry) (h:0 < Y.length):fieldOfP d (X ++ Y)=joinR (fieldOfP d X) (fieldOfP d Y):=by
 refine snoc_ind (P:=fun Y=>fieldOfP d (X ++ Y)=joinR (fieldOfP d X) (fieldOfP d Y)) (fun a=>?_) (fun l a h0 ih=>?_) Y h
 ·rw [fieldOfP_snoc,fieldOfP_one]
 ·rw [←List.append_assoc,fieldOfP_snoc,ih,fieldOfP_snoc d l a,joinR_assoc (fieldOfP_ok d X) (fieldOfP_ok d l) (fldOne_ok d a)]
theorem zipI_assoc {g:Int→Int→Int} (hg:∀x y z,g (g x y) z=g x (g y z)) {a b c:List Int} (h:a.length=b.length):zipI g (zipI g a b) c=zipI g a (zipI g b c):=by
 show (List.range (zipI g a b).length).map _=(List.range a.length).map _
 rw [zipI_len]
 refine List.map_congr_left fun k hk=>?_
 have hk' : k < a.length:=by simpa using hk
 rw [zipI_get hk',zipI_get (by omega),hg]
theorem zipI_comm {g:Int→Int→Int} (hg:∀x y,g x y=g y x) {a b:List Int} (h:a.length=b.length):zipI g a b=zipI g b a:=by
 show (List.range a.length).map _=(List.range b.length).map _
 rw [h]
 exact List.map_congr_left fun k _=>hg _ _
theorem boxOfL_app {n:Nat} {X:List (List Int)} (hX:0 < X.length) (l1:(boxOfL X).lo.length=n) (l2:(boxOfL X).hi.length=n) (Y:List (List Int)) (hY:0 < Y.length) (h:∀v∈Y,v.length=n) :
  boxOfL (X ++ Y)=⟨zipI min (boxOfL X).lo (boxOfL Y).lo,zipI max (boxOfL X).hi (boxOfL Y).hi⟩∧((boxOfL Y).lo.length=n∧(boxOfL Y).hi.length=n):=by
 revert h
 refine snoc_ind (P:=fun Y=>(∀v∈Y,v.length=n)→boxOfL (X ++ Y)=⟨zipI min (boxOfL X).lo (boxOfL Y).lo,zipI max (boxOfL X).hi (boxOfL Y).hi⟩∧((boxOfL Y).lo.length=n∧(boxOfL Y).hi.length=n)) (fun v h=>?_) (fun l v h0 ih h=>?_) Y hY
 ·have hv:=h v (by simp)
  have e:boxOfL [v]=⟨v,v⟩:=by simp [boxOfL]
  rw [boxOfL_snoc hX,e]
  exact ⟨rfl,hv,hv⟩
 ·obtain ⟨i1,i2,i3⟩:=ih fun x hx=>h x (by simp [hx])
  rw [←List.append_assoc,boxOfL_snoc (by rw [List.length_append];omega),i1,boxOfL_snoc h0]
  simp only
  rw [zipI_assoc (by intro x y z;omega) (by omega),zipI_assoc (by intro x y z;omega) (by omega)]
  exact ⟨rfl,by rw [zipI_len];exact i2,by rw [zipI_len];exact i3⟩
theorem shK_app {s:PSchema} {p:List Int} {X:List PEntry} (hX:0 < X.length) (Y:List PEntry) (hY:0 < Y.length):shK s p (X ++ Y)=⟨min (shK s p X).lo (shK s p Y).lo,max (shK s p X).hi (shK s p Y).hi⟩:=by
 refine snoc_ind (P:=fun Y=>shK s p (X ++ Y)=⟨min (shK s p X).lo (shK s p Y).lo,max (shK s p X).hi (shK s p Y).hi⟩) (fun a=>?_) (fun l a h0 ih=>?_) Y hY
 ·rw [shK_snoc hX,shK_one,withP]
 ·rw [←List.append_assoc,shK_snoc (by rw [List.length_append];omega),ih,shK_snoc h0]
  simp only [withP,PShell.mk.injEq]
  omega
theorem tSt_app {X:List PEntry} (hX:0 < X.length) (Y:List PEntry) (hY:0 < Y.length):tSt (X ++ Y)=⟨mnI (tSt X).fromLo (tSt Y).fromLo,mxI (tSt X).fromHi (tSt Y).fromHi,mxI (tSt X).toHi (tSt Y).toHi,mnI (tSt X).bornLo (tSt Y).bornLo,mxI (tSt X).bornHi (tSt Y).bornHi⟩:=by
 refine snoc_ind (P:=fun Y=>tSt (X ++ Y)=⟨mnI (tSt X).fromLo (tSt Y).fromLo,mxI (tSt X).fromHi (tSt Y).fromHi,mxI (tSt X).toHi (tSt Y).toHi,mnI (tSt X).bornLo (tSt Y).bornLo,mxI (tSt X).bornHi (tSt Y).bornHi⟩) (fun a=>?_) (fun l a h0 ih=>?_) Y hY
 ·rw [tSt_snoc hX,tSt_one];rfl
 ·rw [←List.append_assoc,tSt_snoc (by rw [List.length_append];omega),ih,tSt_snoc h0]
  simp only [tStep,mnI_eq,mxI_eq,TSt.mk.injEq]
  omega
theorem SumOK.left {s:PSchema} {pv:List (List Int)} {X Y:List PEntry} (h:SumOK s pv (X ++ Y)):SumOK s pv X:=⟨h.met,h.len,h.piv,fun e he=>h.ent e (by simp [he])⟩
theorem SumOK.right {s:PSchema} {pv:List (List Int)} {X Y:List PEntry} (h:SumOK s pv (X ++ Y)):SumOK s pv Y:=⟨h.met,h.len,h.piv,fun e he=>h.ent e (by simp [he])⟩
theorem SumOK.swap {s:PSchema} {pv:List (List Int)} {X Y:List PEntry} (h:SumOK s pv (X ++ Y)):SumOK s pv (Y ++ X):=⟨h.met,h.len,h.piv,fun e he=>h.ent e (by rw [List.mem_append] at he ⊢; exact he.symm)⟩
theorem join_of2 {s:PSchema} {pv:List (List Int)} {X Y:List PEntry} (h:SumOK s pv (X ++ Y)) (hX:0 < X.length) (hY:0 < Y.length) (hl:X.length+Y.length≤4096):joinSum joinR s (ofL s pv X) (ofL s pv Y)=(ofL s pv (X ++ Y),0):=by
 have e0:=h.left.ent _ (getD_mem hX)
 obtain ⟨⟨v1,v2⟩,-⟩:=vecB_get e0.1
 have hb:=sum_box e0.2 X hX h.left
 have hb':=sum_box e0.2 Y hY h.right
 have hb2:boxB (boxOfL (X.map (·.vec)))=true:=hb.valid v1 v2
 have hb3:boxB (boxOfL (Y.map (·.vec)))=true:=hb'.valid v1 v2
 rw [ofL_eq h.left hX (by omega),ofL_eq h.right hY (by omega),ofL_eq h (by rw [List.length_append];omega) (by rw [List.length_append];omega)]
 unfold joinSum
 simp only
 rw [if_neg (by simp),if_neg (by omega)]
 congr 1
 have ht:=tSt_app hX Y hY
 congr 1
 ·simp
 ·simp only [boxJoin,hb2,hb3,Bool.true_and,hb.lo,hb'.lo,decide_true,if_true]
  rw [List.map_append,(boxOfL_app (n:=(X.getD 0 default).vec.length) (by simpa using hX) hb.lo hb.hi (Y.map (·.vec)) (by simpa using hY) fun v hv=>?_).1]
  obtain ⟨e,he,rfl⟩:=List.mem_map.1 hv
  have:=(h.right.ent e he).2
  have:=e0.2
  omega
 ·have s1:shellsB (pv.map fun p=>shK s p X)=true:=shellsB_map h.len fun p hp=>shK_ok hp X hX h.left
  have s2:shellsB (pv.map fun p=>shK s p Y)=true:=shellsB_map h.len fun p hp=>shK_ok hp Y hY h.right
  simp only [shJoin,s1,s2,Bool.true_and,List.length_map,decide_true,if_true]
  rw [joinS_map]
  refine List.map_congr_left fun p hp=>?_
  have q1:=shellB_iff.1 (shK_ok hp X hX h.left)
  have q2:=shellB_iff.1 (shK_ok hp Y hY h.right)
  rw [shK_app hX Y hY]
  simp only [PShell.mk.injEq]
  omega
 ·rw [ht]
 ·rw [ht]
 ·rw [ht]
 ·rw [ht]
 ·rw [ht]
 ·refine Eq.trans ?_ (range_getD s.defs fun d=>fieldOfP d (X ++ Y))
  refine List.map_congr_left fun k hk=>?_
  have hk' : k < s.defs.length:=by simpa using hk
  rw [map_getD _ hk',map_getD _ hk',fieldOfP_app _ X Y hY]
theorem of_comm {s:PSchema} {pv:List (List Int)} {X Y:List PEntry} (h:SumOK s pv (X ++ Y)) (hX:0 < X.length) (hY:0 < Y.length) (hl:X.length+Y.length≤4096):ofL s pv (Y ++ X)=ofL s pv (X ++ Y):=by
 have e0:=h.left.ent _ (getD_mem hX)
 have hb:=sum_box e0.2 X hX h.left
 have hb':=sum_box e0.2 Y hY h.right
 have hv:∀Z:List PEntry,SumOK s pv Z→∀v∈Z.map (·.vec),v.length=(X.getD 0 default).vec.length:=fun Z hZ v hv=>by
  obtain ⟨e,he,rfl⟩:=List.mem_map.1 hv
  have:=(hZ.ent e he).2
  have:=e0.2
  omega
 rw [ofL_eq h (by rw [List.length_append];omega) (by rw [List.length_append];omega),ofL_eq h.swap (by rw [List.length_append];omega) (by rw [List.length_append];omega)]
 have t1:=tSt_app hX Y hY
 have t2:=tSt_app hY X hX
 have ht:tSt (Y ++ X)=tSt (X ++ Y):=by
  rw [t1,t2]
  simp only [mnI_eq,mxI_eq,TSt.mk.injEq]
  omega
 rw [ht]
 congr 1
 ·simp only [List.length_append];omega
 ·rw [List.map_append,List.map_append,(boxOfL_app (n:=(X.getD 0 default).vec.length) (by simpa using hX) hb.lo hb.hi (Y.map (·.vec)) (by simpa using hY) (hv Y h.right)).1,(boxOfL_app (n:=(X.getD 0 default).vec.length) (by simpa using hY) hb'.lo hb'.hi (X.map (·.vec)) (by simpa using hX) (hv X h.left)).1]
  rw [zipI_comm (g:=min) (by intro x y;omega) (by rw [hb.lo,hb'.lo]),zipI_comm (g:=max) (by intro x y;omega) (by rw [hb.hi,hb'.hi])]
 ·refine List.map_congr_left fun p _=>?_
  rw [shK_app hX Y hY,shK_app hY X hX]
  simp only [PShell.mk.injEq]
  omega
 ·refine List.map_congr_left fun d _=>?_
  rw [fieldOfP_app d X Y hY,fieldOfP_app d Y X hX,joinR_comm (fieldOfP_ok d Y) (fieldOfP_ok d X)]
theorem fieldOfP_has (d:PDef) (l:List PEntry):(fieldOfP d l).has≤l.length:=by
 rcases Nat.eq_zero_or_pos l.length with h|h
 ·rw [List.eq_nil_of_length_eq_zero h,fieldOfP_nil];exact Int.le_refl _
 ·refine snoc_ind (P:=fun l=>(fieldOfP d l).has≤l.length) (fun a=>?_) (fun l a _ ih=>?_) l h
  ·rw [fieldOfP_one,fldOne];split<;>simp
  ·have h1:(fldOne d a).has≤1:=by rw [fldOne];split<;>simp
   rw [fieldOfP_snoc,List.length_append,joinR]
   split
   ·simp only [List.length_cons,List.length_nil];omega
   ·split
    ·simp only [List.length_cons,List.length_nil];omega
    ·simp only [List.length_cons,List.length_nil];omega
theorem hasB_mem {l:List ByteArray} {w:ByteArray} (h:w∈l):hasB l w=true:=List.any_eq_true.2 ⟨w,h,eqB_self w⟩
theorem bad_join {ca cb:Int} {x y:PField} (hx:FieldOK x) (hy:FieldOK y) (h1:x.has≤ca) (h2:y.has≤cb):badF ca (ca+cb) x (joinR x y)=false:=by
 have q1:=hx.has
 have q2:=hy.has
 rw [badF_bet]
 by_cases e1:x.has=0
 ·have:joinR x y=y:=by simp only [joinR,if_pos e1]
  rw [this,decide_eq_false (show ¬y.has < x.has by omega),decide_eq_false (show ¬ca+cb - y.has < ca - x.has by omega),decide_eq_false (show ¬0 < x.has by omega)];rfl
 ·by_cases e2:y.has=0
  ·have:joinR x y=x:=by simp only [joinR,if_neg e1,if_pos e2]
   have hb:betB x x=true:=by
    simp only [betB,Bool.and_eq_true,decide_eq_true_eq,List.all_eq_true]
    exact ⟨fun w hw=>hasB_mem hw,by omega,by omega⟩
   rw [this,decide_eq_false (show ¬x.has < x.has by omega),decide_eq_false (show ¬ca+cb - x.has < ca - x.has by omega),hb,Bool.not_true,Bool.and_false];rfl
  ·have hj:joinR x y=⟨x.has+y.has,mnI x.lo y.lo,mxI x.hi y.hi,mergeW x.words y.words⟩:=by simp only [joinR,if_neg e1,if_neg e2]
   have hb:betB x (joinR x y)=true:=by
    rw [hj]
    simp only [betB,Bool.and_eq_true,decide_eq_true_eq,List.all_eq_true,mnI_eq,mxI_eq]
    exact ⟨fun w hw=>hasB_mem (((mergeW_spec _ _ hx.asc hy.asc).2 w).2 (.inl hw)),by omega,by omega⟩
   rw [hb,hj,decide_eq_false (show ¬x.has+y.has < x.has by omega),decide_eq_false (show ¬ca+cb - (x.has+y.has) < ca - x.has by omega),Bool.not_true,Bool.and_false];rfl
theorem within_of {s:PSchema} {pv:List (List Int)} {X Y:List PEntry} (h:SumOK s pv (X ++ Y)) (hX:0 < X.length) (hY:0 < Y.length) (hl:X.length+Y.length≤4096):withinZ s (ofL s pv X) (ofL s pv (X ++ Y))=true:=by
 have e0:=h.left.ent _ (getD_mem hX)
 obtain ⟨⟨v1,v2⟩,-⟩:=vecB_get e0.1
 have hb:=sum_box e0.2 X hX h.left
 have hbY:=sum_box e0.2 Y hY h.right
 have hbJ:=sum_box e0.2 (X ++ Y) (by rw [List.length_append];omega) h
 have hv2:boxB (boxOfL (X.map (·.vec)))=true:=hb.valid v1 v2
 have hv3:boxB (boxOfL ((X ++ Y).map (·.vec)))=true:=hbJ.valid v1 v2
 have hB:boxOfL ((X ++ Y).map (·.vec))=⟨zipI min (boxOfL (X.map (·.vec))).lo (boxOfL (Y.map (·.vec))).lo,zipI max (boxOfL (X.map (·.vec))).hi (boxOfL (Y.map (·.vec))).hi⟩:=by
  rw [List.map_append]
  exact (boxOfL_app (n:=(X.getD 0 default).vec.length) (by simpa using hX) hb.lo hb.hi (Y.map (·.vec)) (by simpa using hY) fun v hv=>by
   obtain ⟨e,he,rfl⟩:=List.mem_map.1 hv
   have:=(h.right.ent e he).2
   have:=e0.2
   omega).1
 rw [ofL_eq h.left hX (by omega),ofL_eq h (by rw [List.length_append];omega) (by rw [List.length_append];omega),tSt_app hX Y hY]
 simp only [withinZ,Bool.and_eq_true,decide_eq_true_eq,List.all_eq_true,List.mem_range,mnI_eq,mxI_eq,Bool.not_eq_true',List.length_map]
 refine ⟨by rw [List.length_append];omega,?_,trivial,fun k hk=>?_,by omega,by omega,by omega,by omega,by omega,fun k hk=>?_⟩
 ·have key:∀v:List Int,v.length=(X.getD 0 default).vec.length→(∀k,k < (X.getD 0 default).vec.length→(boxOfL (X.map (·.vec))).lo.getD k default≤v.getD k default∧v.getD k default≤(boxOfL (X.map (·.vec))).hi.getD k default)→boxHas (boxOfL ((X ++ Y).map (·.vec))) v=true:=fun v hv hk=>by
   simp only [boxHas,hv3,Bool.true_and,Bool.and_eq_true,decide_eq_true_eq,List.all_eq_true,List.mem_range,hasK,hbJ.lo,hv]
   refine ⟨trivial,fun k h=>?_⟩
   have:=hk k h
   rw [hB]
   simp only
   rw [zipI_get (by rw [hb.lo];exact h),zipI_get (by rw [hb.hi];exact h)]
   omega
  simp only [boxIn,hv2,Bool.true_and,Bool.and_eq_true]
  exact ⟨key _ hb.lo fun k hk=>by have:=hb.le k hk;omega,key _ hb.hi fun k hk=>by have:=hb.le k hk;omega⟩
 ·simp only [shellOut,Bool.and_eq_true,decide_eq_true_eq]
  rw [map_getD _ hk,map_getD _ hk,shK_app hX Y hY]
  simp only
  omega
 ·rw [map_getD _ hk,map_getD _ hk,fieldOfP_app _ X Y hY,List.length_append,Int.natCast_add]
  exact bad_join (fieldOfP_ok _ X) (fieldOfP_ok _ Y) (fieldOfP_has _ X) (fieldOfP_has _ Y)
def leafH (l:List PAttr) (op n m:Int) (nm w:ByteArray):Bool:=
 if op=5 then (getA l nm).2
 else if op=6 then (getA l nm).2 && (decide ((getA l nm).1.kind=1) && (decide (n≤(getA l nm).1.n) && decide ((getA l nm).1.n≤m)))
 else (getA l nm).2 && (decide ((getA l nm).1.kind=2) && eqB (getA l nm).1.s w)
mutual
def holdsZ (l:List PAttr):PPred→Bool
 | .mk op nm n m w subs=>
  if op=1 then true
  else if op=2 then holdsA l subs
  else if op=3 then holdsO l subs
  else if op=4 then !holdsO l subs
  else leafH l op n m nm w
def holdsA (l:List PAttr):List PPred→Bool
 | []=>true
 |p :: r=>holdsZ l p && holdsA l r
def holdsO (l:List PAttr):List PPred→Bool
 | []=>false
 |p :: r=>holdsZ l p || holdsO l r
end
theorem holdsA_eq (l:List PAttr):∀r,holdsA l r=r.all (holdsZ l)
 | []=>by rw [holdsA];rfl
 |p :: r=>by rw [holdsA,holdsA_eq l r];rfl
theorem holdsO_eq (l:List PAttr):∀r,holdsO l r=r.any (holdsZ l)
 | []=>by rw [holdsO];rfl
 |p :: r=>by rw [holdsO,holdsO_eq l r];rfl
def HolC (l:List PAttr) (p:PPred):Prop:=PCalls Tryz.prog 191 [pattrs l,ppred p] (· = pbool (holdsZ l p))
end
section
open Go.RowKit
variable (l:List PAttr)
set_option maxRecDepth 10000 in
set_option maxHeartbeats 1000000 in
theorem pw_idxH (r:List PPred) (hl:r.length≤1000000000000) (hp:∀k,k < r.length→HolC l (r.getD k default)):PCalls Tryz.prog 270 [ppreds r, .fn (191+1000000) [pattrs l]] (· = pint (idxF (holdsZ l) r)):=by
 have hlow1:Low (.fn (191+1000000) [pattrs l]):=.fn _ _ (by simp [low_pattrs])
 have hlow2:Low (ppreds r):=(low_ppreds r).2 trivial
 unfold HolC ppred at hp
 refine pcalls_of_pw typeTab_ok Tryz.func270 rfl (by kernel_rfl) (by simp [hlow2,hlow1]) (by simp [ppreds,PV.ownB]) (by rw [Tryz.ntmps270];simp) ?_
 rw [Tryz.ntmps270,Tryz.results270]
 refine wk ?_
 refine PW.loop (fun k:Nat=>((((bot.put 0 (ppreds r)).put 1 (.fn (191+1000000) [pattrs l])).put 7 (pint r.length)).put 8 (pint k))) (fun k=>k≤r.length∧∀j,j < k→holdsZ l (r.getD j default)=false) (fun k=>r.length - k) 0 ⟨by omega,by simp⟩ ?_ ?_
 ·exact sb
 ·rintro k ⟨hk,hn⟩
  by_cases hlt:k < r.length
  ·have hc:=hp k hlt
   have hlk:=low_prL (r.getD k default)
   cases hpk:holdsZ l (r.getD k default) with
   |true=>
    rw [hpk] at hc
    refine wk ?_
    refine retP rfl (by exact lw) ?_
    rw [idxF_here default hlt hpk hn];rfl
   |false=>
    rw [hpk] at hc
    refine wk ?_
    refine loopP (k+1) ⟨by omega,fun j hj=>?_⟩ (by omega) ?_
    ·by_cases h:j=k
     ·rw [h];exact hpk
     ·exact hn j (by omega)
    ·exact sb
  ·refine wk ?_
   refine retP rfl (by exact lw) ?_
   rw [idxF_none default (fun j hj=>hn j (by omega))];rfl
set_option maxRecDepth 10000 in
theorem pw_anyH (r:List PPred) (hl:r.length≤1000000000000) (hp:∀k,k < r.length→HolC l (r.getD k default)):PCalls Tryz.prog 264 [ppreds r, .fn (191+1000000) [pattrs l]] (· = pbool (r.any (holdsZ l))):=by
 have hlow1:Low (.fn (191+1000000) [pattrs l]):=.fn _ _ (by simp [low_pattrs])
 have hlow2:Low (ppreds r):=(low_ppreds r).2 trivial
 have h:=pw_idxH l r hl hp
 refine pcalls_of_pw typeTab_ok Tryz.func264 rfl (by kernel_rfl) (by simp [hlow2,hlow1]) (by simp [ppreds,PV.ownB]) (by rw [Tryz.ntmps264];simp) ?_
 rw [Tryz.ntmps264,Tryz.results264]
 refine wk ?_
 refine PWops.boolS rfl rfl rfl rfl rfl ?_ ?_
 ·intro hsp
  refine wk ?_
  refine retP rfl (by exact lw) ?_
  rw [←idxF_ge,hsp];rfl
 ·intro hsp
  refine wk ?_
  refine retP rfl (by exact lw) ?_
  rw [←idxF_ge,hsp];rfl
theorem pw_ho1 (p:PPred):PCalls Tryz.prog 243 [pattrs l,ppred p] (· = pbool true):=by
 have hlp:=low_prL p
 refine pcalls_of_pw typeTab_ok Tryz.func243 rfl (by kernel_rfl) (by simp [low_pattrs,low_ppred]) (by simp [pattrs,ppred,PV.ownB]) (by rw [Tryz.ntmps243];simp) ?_
 rw [Tryz.ntmps243,Tryz.results243]
 unfold ppred
 refine wk ?_
 exact retP (r:=pbool true) rfl (by exact lw) rfl
set_option maxRecDepth 10000 in
set_option maxHeartbeats 1000000 in
theorem pw_ho2 (p:PPred) (hl:p.subs.length≤1000000) (hp:∀k,k < p.subs.length→HolC l (p.subs.getD k default)):PCalls Tryz.prog 244 [pattrs l,ppred p] (· = pbool (p.subs.all (holdsZ l))):=by
 have hlp:=low_prL p
 have hps:Low (ppreds p.subs):=(low_ppreds _).2 trivial
 have hla:Low (pattrs l):=(low_pattrs l).2 trivial
 unfold HolC at hp
 refine pcalls_of_pw typeTab_ok Tryz.func244 rfl (by kernel_rfl) (by simp [low_pattrs,low_ppred]) (by simp [pattrs,ppred,PV.ownB]) (by rw [Tryz.ntmps244];simp) ?_
 rw [Tryz.ntmps244,Tryz.results244]
 unfold ppred at *
 rw [prL_eq p]
 refine wk ?_
 refine PW.loop (fun k:Nat=>(bot.put 0 (pattrs l) |>.put 8 (ppreds p.subs) |>.put 9 (pint p.subs.length) |>.put 10 (pint k))) (fun k=>k≤p.subs.length∧∀j,j < k→holdsZ l (p.subs.getD j default)=true) (fun k=>p.subs.length - k) 0 ⟨by omega,by simp⟩ ?_ ?_
 ·exact sb
 rintro k ⟨hk,ha⟩
 by_cases hlt:k < p.subs.length
 ·have hc:=hp k hlt
  have hlk:=low_prL (p.subs.getD k default)
  cases hpk:holdsZ l (p.subs.getD k default) with
  |true=>
   rw [hpk] at hc
   refine wk ?_
   refine loopP (k+1) ⟨by omega,fun j hj=>?_⟩ (by omega) ?_
   ·rcases Nat.lt_succ_iff_lt_or_eq.1 hj with h|h
    ·exact ha j h
    ·rw [h];exact hpk
   ·exact sb
  |false=>
   rw [hpk] at hc
   have:p.subs.all (holdsZ l)=false:=by
    rw [List.all_eq_false];exact ⟨_,getD_mem hlt,by rw [hpk];decide⟩
   rw [this]
   refine wk ?_
   exact retP (r:=pbool false) rfl (by exact lw) rfl
 ·have:p.subs.all (holdsZ l)=true:=by
   rw [List.all_eq_true]
   intro x hx
   obtain ⟨j,hj,rfl⟩:=List.getElem_of_mem hx
   rw [←getD_atW hj]
   exact ha j (by omega)
  rw [this]
  refine wk ?_
  exact retP (r:=pbool true) rfl (by exact lw) rfl
set_option maxRecDepth 10000 in
theorem pw_ho3 (p:PPred) (hl:p.subs.length≤1000000) (hp:∀k,k < p.subs.length→HolC l (p.subs.getD k default)):PCalls Tryz.prog 245 [pattrs l,ppred p] (· = pbool (p.subs.any (holdsZ l))):=by
 have hlp:=low_prL p
 have hps:Low (ppreds p.subs):=(low_ppreds _).2 trivial
 have hla:Low (pattrs l):=(low_pattrs l).2 trivial
 have hc:=pw_anyH l p.subs (by omega) hp
 have hlow1:Low (.fn (191+1000000) [pattrs l]):=.fn _ _ (by simp [low_pattrs])
 refine pcalls_of_pw typeTab_ok Tryz.func245 rfl (by kernel_rfl) (by simp [low_pattrs,low_ppred]) (by simp [pattrs,ppred,PV.ownB]) (by rw [Tryz.ntmps245];simp) ?_
 rw [Tryz.ntmps245,Tryz.results245]
 unfold ppred
 rw [prL_eq p]
 generalize p.subs.any (holdsZ l)=b at *
 refine wk ?_
 exact retP (r:=pbool b) rfl (by exact lw) rfl
set_option maxRecDepth 10000 in
theorem pw_ho4 (p:PPred) (h:PCalls Tryz.prog 245 [pattrs l,ppred p] (· = pbool (p.subs.any (holdsZ l)))):PCalls Tryz.prog 246 [pattrs l,ppred p] (· = pbool (!p.subs.any (holdsZ l))):=by
 have hlp:=low_prL p
 refine pcalls_of_pw typeTab_ok Tryz.func246 rfl (by kernel_rfl) (by simp [low_pattrs,low_ppred]) (by simp [pattrs,ppred,PV.ownB]) (by rw [Tryz.ntmps246];simp) ?_
 rw [Tryz.ntmps246,Tryz.results246]
 unfold ppred at *
 generalize p.subs.any (holdsZ l)=b at *
 refine wk ?_
 exact retP (r:=pbool !b) rfl (by exact lw) rfl
set_option maxRecDepth 10000 in
theorem pw_ho5 (p:PPred) (ha:l.length≤1000000):PCalls Tryz.prog 247 [pattrs l,ppred p] (· = pbool (leafH l 5 p.n p.m p.name p.s)):=by
 have hlp:=low_prL p
 have c1:=pcGet l p.name ha
 have hlx:=low_pattrL2 (getA l p.name).1
 refine pcalls_of_pw typeTab_ok Tryz.func247 rfl (by kernel_rfl) (by simp [low_pattrs,low_ppred]) (by simp [pattrs,ppred,PV.ownB]) (by rw [Tryz.ntmps247];simp) ?_
 rw [Tryz.ntmps247,Tryz.results247]
 unfold leafH
 rw [if_pos rfl]
 generalize getA l p.name=r at *
 unfold ppred
 refine wk ?_
 exact retP (r:=pbool r.2) rfl (by exact lw) rfl
set_option maxRecDepth 10000 in
set_option maxHeartbeats 1000000 in
theorem pw_ho6 (p:PPred) (ha:l.length≤1000000):PCalls Tryz.prog 248 [pattrs l,ppred p] (· = pbool (leafH l 6 p.n p.m p.name p.s)):=by
 have hlp:=low_prL p
 have c1:=pcGet l p.name ha
 have hlx:=low_pattrL2 (getA l p.name).1
 refine pcalls_of_pw typeTab_ok Tryz.func248 rfl (by kernel_rfl) (by simp [low_pattrs,low_ppred]) (by simp [pattrs,ppred,PV.ownB]) (by rw [Tryz.ntmps248];simp) ?_
 rw [Tryz.ntmps248,Tryz.results248]
 unfold leafH
 rw [if_neg (by decide),if_pos rfl]
 generalize getA l p.name=r at *
 obtain ⟨a,b⟩:=r
 simp only at c1 hlx ⊢
 unfold ppred
 cases b with
 |false=>
  refine wk ?_
  exact retP (r:=pbool false) rfl (by exact lw) rfl
 |true=>
  by_cases q1:a.kind=1
  ·rw [decide_eq_true q1]
   by_cases q2:p.n≤a.n
   ·rw [decide_eq_true q2]
    by_cases q3:a.n≤p.m
    ·rw [decide_eq_true q3]
     refine wk ?_
     exact retP (r:=pbool true) rfl (by exact lw) rfl
    ·rw [decide_eq_false q3]
     refine wk ?_
     exact retP (r:=pbool false) rfl (by exact lw) rfl
   ·rw [decide_eq_false q2]
    refine wk ?_
    exact retP (r:=pbool false) rfl (by exact lw) rfl
  ·rw [decide_eq_false q1]
   refine wk ?_
   exact retP (r:=pbool false) rfl (by exact lw) rfl
set_option maxRecDepth 10000 in
set_option maxHeartbeats 1000000 in
theorem pw_ho7 (p:PPred) (ha:l.length≤1000000):PCalls Tryz.prog 249 [pattrs l,ppred p] (· = pbool (leafH l 7 p.n p.m p.name p.s)):=by
 have hlp:=low_prL p
 have c1:=pcGet l p.name ha
 have hlx:=low_pattrL2 (getA l p.name).1
 refine pcalls_of_pw typeTab_ok Tryz.func249 rfl (by kernel_rfl) (by simp [low_pattrs,low_ppred]) (by simp [pattrs,ppred,PV.ownB]) (by rw [Tryz.ntmps249];simp) ?_
 rw [Tryz.ntmps249,Tryz.results249]
 unfold leafH
 rw [if_neg (by decide),if_neg (by decide)]
 generalize getA l p.name=r at *
 obtain ⟨a,b⟩:=r
 simp only at c1 hlx ⊢
 unfold ppred
 cases b with
 |false=>
  refine wk ?_
  exact retP (r:=pbool false) rfl (by exact lw) rfl
 |true=>
  by_cases q1:a.kind=2
  ·rw [decide_eq_true q1]
   cases q2:eqB a.s p.s <;>
   ·have q3:(a.s.toList == p.s.toList)=_:=q2
    refine wk ?_
    exact retP (r:=pbool _) rfl (by exact lw) rfl
  ·rw [decide_eq_false q1]
   refine wk ?_
   exact retP (r:=pbool false) rfl (by exact lw) rfl
set_option maxRecDepth 10000 in
set_option maxHeartbeats 4000000 in
theorem pw_hold0 (p:PPred) (b:Bool) (h:(p.op=1∧PCalls Tryz.prog 243 [pattrs l,ppred p] (· = pbool b))∨(p.op=2∧PCalls Tryz.prog 244 [pattrs l,ppred p] (· = pbool b))∨(p.op=3∧PCalls Tryz.prog 245 [pattrs l,ppred p] (· = pbool b))∨(p.op=4∧PCalls Tryz.prog 246 [pattrs l,ppred p] (· = pbool b))∨(p.op=5∧PCalls Tryz.prog 247 [pattrs l,ppred p] (· = pbool b))∨(p.op=6∧PCalls Tryz.prog 248 [pattrs l,ppred p] (· = pbool b))∨(p.op=7∧PCalls Tryz.prog 249 [pattrs l,ppred p] (· = pbool b))) :
  PCalls Tryz.prog 191 [pattrs l,ppred p] (· = pbool b):=by
 have hlp:=low_prL p
 have hla:Low (pattrs l):=(low_pattrs l).2 trivial
 refine pcalls_of_pw typeTab_ok Tryz.func191 rfl (by kernel_rfl) (by simp [low_pattrs,low_ppred]) (by simp [pattrs,ppred,PV.ownB]) (by rw [Tryz.ntmps191];simp) ?_
 rw [Tryz.ntmps191,Tryz.results191]
 unfold ppred at *
 rw [prL_eq] at *
 refine wk ?_
 refine PWops.mkMG rfl rfl rfl rfl ?_
 (refine ops0 ?_)
 (refine ops0 ?_)
 refine PWops.mins (p:=.fn (243+1000000) [pattrs l]) rfl rfl rfl rfl rfl rfl rfl rfl rfl rfl rfl rfl rfl ?_
 (refine ops0 ?_)
 (refine ops0 ?_)
 refine PWops.mins (p:=.fn (244+1000000) [pattrs l]) rfl rfl rfl rfl rfl rfl rfl rfl rfl rfl rfl rfl rfl ?_
 (refine ops0 ?_)
 (refine ops0 ?_)
 refine PWops.mins (p:=.fn (245+1000000) [pattrs l]) rfl rfl rfl rfl rfl rfl rfl rfl rfl rfl rfl rfl rfl ?_
 (refine ops0 ?_)
 (refine ops0 ?_)
 refine PWops.mins (p:=.fn (246+1000000) [pattrs l]) rfl rfl rfl rfl rfl rfl rfl rfl rfl rfl rfl rfl rfl ?_
 (refine ops0 ?_)
 (refine ops0 ?_)
 refine PWops.mins (p:=.fn (247+1000000) [pattrs l]) rfl rfl rfl rfl rfl rfl rfl rfl rfl rfl rfl rfl rfl ?_
 (refine ops0 ?_)
 (refine ops0 ?_)
 refine PWops.mins (p:=.fn (248+1000000) [pattrs l]) rfl rfl rfl rfl rfl rfl rfl rfl rfl rfl rfl rfl rfl ?_
 (refine ops0 ?_)
 (refine ops0 ?_)
 refine PWops.mins (p:=.fn (249+1000000) [pattrs l]) rfl rfl rfl rfl rfl rfl rfl rfl rfl rfl rfl rfl rfl ?_
 refine wg ?_
 rcases h with ⟨ho,h⟩|⟨ho,h⟩|⟨ho,h⟩|⟨ho,h⟩|⟨ho,h⟩|⟨ho,h⟩|⟨ho,h⟩
 all_goals
  rw [ho] at h ⊢
  refine PWops.lkp rfl rfl rfl rfl rfl rfl rfl rfl rfl rfl rfl rfl ?_
  refine wk ?_
  exact retP (r:=pbool b) rfl (by exact lw) rfl
mutual
theorem pw_hold (ha:l.length≤1000000) {s:PSchema} : ∀p:PPred,okP s p→HolC l p
 | .mk op nm n m w subs,h=>by
  rw [okP] at h
  obtain ⟨h1,h2,h3,h4,h5⟩:=h
  have hL:=pw_holdL ha subs h5
  have k2:=pw_ho2 l (.mk op nm n m w subs) h4 hL
  have k3:=pw_ho3 l (.mk op nm n m w subs) h4 hL
  unfold HolC
  rw [holdsZ]
  refine pw_hold0 l _ _ ?_
  rcases (show op=1∨op=2∨op=3∨op=4∨op=5∨op=6∨op=7 by omega) with rfl|rfl|rfl|rfl|rfl|rfl|rfl
  ·rw [if_pos rfl]
   exact .inl ⟨rfl,pw_ho1 l _⟩
  ·rw [if_neg (by decide),if_pos rfl,holdsA_eq]
   exact .inr (.inl ⟨rfl,k2⟩)
  ·rw [if_neg (by decide),if_neg (by decide),if_pos rfl,holdsO_eq]
   exact .inr (.inr (.inl ⟨rfl,k3⟩))
  ·rw [if_neg (by decide),if_neg (by decide),if_neg (by decide),if_pos rfl,holdsO_eq]
   exact .inr (.inr (.inr (.inl ⟨rfl,pw_ho4 l _ k3⟩)))
  ·rw [if_neg (by decide),if_neg (by decide),if_neg (by decide),if_neg (by decide)]
   exact .inr (.inr (.inr (.inr (.inl ⟨rfl,pw_ho5 l (.mk 5 nm n m w subs) ha⟩))))
  ·rw [if_neg (by decide),if_neg (by decide),if_neg (by decide),if_neg (by decide)]
   exact .inr (.inr (.inr (.inr (.inr (.inl ⟨rfl,pw_ho6 l (.mk 6 nm n m w subs) ha⟩)))))
  ·rw [if_neg (by decide),if_neg (by decide),if_neg (by decide),if_neg (by decide)]
   exact .inr (.inr (.inr (.inr (.inr (.inr ⟨rfl,pw_ho7 l (.mk 7 nm n m w subs) ha⟩)))))
theorem pw_holdL (ha:l.length≤1000000) {s:PSchema} : ∀r:List PPred,okL s r→∀k,k < r.length→HolC l (r.getD k default)
 | [],_,k,hk=>by simp at hk
 |p :: r,h,k,hk=>by
  rw [okL] at h
  cases k with
  |zero=>exact pw_hold ha p h.1
  |succ k=>
   have:=pw_holdL ha r h.2 k (by simpa using hk)
   simpa using this
end
theorem pw_Holds (p:PPred) (h:HolC l p):PCalls Tryz.prog 108 [ppred p,pattrs l] (· = pbool (holdsZ l p)):=by
 have hlp:=low_prL p
 have hla:Low (pattrs l):=(low_pattrs l).2 trivial
 unfold HolC at h
 refine pcalls_of_pw typeTab_ok Tryz.func108 rfl (by kernel_rfl) (by simp [low_pattrs,low_ppred]) (by simp [pattrs,ppred,PV.ownB]) (by rw [Tryz.ntmps108];simp) ?_
 rw [Tryz.ntmps108,Tryz.results108]
 generalize holdsZ l p=b at *
 unfold ppred at *
 refine wk ?_
 exact retP (r:=pbool b) rfl (by exact lw) rfl
end
section
open Go.RowKit
theorem entry_facts {s:PSchema} {e:PEntry} (hc:checkE s=0) (h:entryA s e=0):((0≤e.frm∧e.frm≤1048576)∧(e.frm < e.to∧e.to≤1048577)∧1≤e.born∧e.born≤1073741824)∧∀k,k < s.defs.length→(getA e.attrs (s.defs.getD k default).name).2=true→valueE (s.defs.getD k default) (getA e.attrs (s.defs.getD k default).name).1=0:=by
 have h2:=h
 rw [entryA_E hc] at h2
 have hf:fitsGo s.defs ByteArray.empty false e.attrs=0:=by
  unfold entryA at h
  split at h
  ·rename_i q;exact absurd h q
  ·exact h
 refine ⟨?_,fun k hk hg=>?_⟩
 ·unfold entryE at h2
  split at h2
  ·cases h2
  ·split at h2
   ·cases h2
   ·omega
 ·obtain ⟨g1,g2⟩:=getA_found hg
  obtain ⟨-,-,h3⟩:=((fits_iff _ _).1 hf).1 _ g1
  have hn:(getA e.attrs (s.defs.getD k default).name).1.name=(s.defs.getD k default).name:=toList_inj (by simpa [eqB] using g2)
  have hk2:s.defs[k]? = some (s.defs.getD k default):=by rw [List.getElem?_eq_getElem hk,getD_atW hk]
  rw [hn,findI_at (checkE_ok hc) hk2,Int.toNat_natCast,hk2] at h3
  exact h3
structure FB (d:PDef) (f:PField) (c:Int):Prop where
 has:0≤f.has∧f.has≤c
 int:0 < f.has→d.kind=1→d.lo≤f.lo∧f.lo≤f.hi∧f.hi≤d.hi∧f.words = []
 oth:¬(0 < f.has∧d.kind=1)→f.lo=0∧f.hi=0∧(0 < f.has↔0 < f.words.length)
 asc:Asc f.words
 mem:∀w∈f.words,hasB d.words w=true
theorem FB.ok {d:PDef} {f:PField} {c:Int} (h:FB d f c):fieldB d f c=true:=by
 have h1:=h.has
 unfold fieldB
 rw [if_neg (by simp [withinB];omega)]
 by_cases q:0 < f.has∧d.kind=1
 ·obtain ⟨a,b,c2,e⟩:=h.int q.1 q.2
  rw [if_pos q,e]
  simp only [withinB,Bool.and_eq_true,decide_eq_true_eq]
  exact ⟨⟨a,b⟩,c2,rfl⟩
 ·obtain ⟨a,b,e⟩:=h.oth q
  have e2:decide (0 < f.has)=decide (0 < f.words.length):=by simp only [decide_eq_decide];exact e
  rw [if_neg q,if_neg (by rw [e2];simp [a,b]),List.all_eq_true]
  intro i hi
  rw [List.mem_range] at hi
  unfold wordOK
  rw [h.mem _ (getD_mem hi),Bool.true_and,Bool.or_eq_true,decide_eq_true_eq]
  by_cases q0:i=0
  ·exact .inl q0
  ·right
   have:=List.pairwise_iff_getElem.1 h.asc (i - 1) i (by omega) hi (by omega)
   rw [←getD_atW,←getD_atW] at this
   rw [leqB_false.2 this];rfl
theorem FB.join {d:PDef} {x y:PField} {cx cy:Int} (hx:FB d x cx) (hy:FB d y cy):FB d (joinR x y) (cx+cy):=by
 have h1:=hx.has
 have h2:=hy.has
 obtain ⟨m1,m2⟩:=mergeW_spec x.words y.words hx.asc hy.asc
 unfold joinR
 split
 ·exact ⟨by omega,hy.int,hy.oth,hy.asc,hy.mem⟩
 ·split
  ·exact ⟨by omega,hx.int,hx.oth,hx.asc,hx.mem⟩
  ·refine ⟨by simp only;omega,fun _ hk=>?_,fun hk=>?_,m1,fun w hw=>((m2 w).1 hw).elim (hx.mem w) (hy.mem w)⟩
   ·obtain ⟨a1,a2,a3,a4⟩:=hx.int (by omega) hk
    obtain ⟨b1,b2,b3,b4⟩:=hy.int (by omega) hk
    simp only [mnI_eq,mxI_eq,a4,b4]
    exact ⟨by omega,by omega,by omega,by rw [mergeW]⟩
   ·simp only at hk
    have hk2:d.kind≠1:=fun h=>hk ⟨by omega,h⟩
    obtain ⟨a1,a2,a3⟩:=hx.oth (fun h=>hk2 h.2)
    obtain ⟨b1,b2,b3⟩:=hy.oth (fun h=>hk2 h.2)
    simp only [mnI_eq,mxI_eq]
    refine ⟨by omega,by omega,fun _=>?_,fun _=>by omega⟩
    have hw:0 < x.words.length:=a3.1 (by omega)
    exact List.length_pos_of_mem ((m2 _).2 (.inl (getD_mem hw)))
theorem FB.one {s:PSchema} {e:PEntry} (hc:checkE s=0) (h:entryA s e=0) {k:Nat} (hk:k < s.defs.length):FB (s.defs.getD k default) (fldOne (s.defs.getD k default) e) 1:=by
 have hv:=(entry_facts hc h).2 k hk
 have hkd:=((checkE_ok hc).one _ (getD_mem hk)).2.1
 have ho:=fldOne_ok (s.defs.getD k default) e
 generalize s.defs.getD k default=d at *
 unfold fldOne at ho ⊢
 by_cases q:(getA e.attrs d.name).2=true
 ·have hv:=hv q
  rw [if_pos q] at ho ⊢
  unfold valueE at hv
  split at hv
  ·cases hv
  ·rename_i q1
   split at hv
   ·rename_i q2
    split at hv
    ·cases hv
    ·split at hv
     ·cases hv
     ·have hk1:d.kind=1:=by omega
      have hk2:¬d.kind=2:=by omega
      refine ⟨by simp,fun _ _=>?_,fun hn=>absurd ⟨by simp,hk1⟩ hn,ho.asc,?_⟩
      ·rw [if_neg hk2];exact ⟨by simp only;omega,Int.le_refl _,by simp only;omega,rfl⟩
      ·simp only [if_neg hk2];intro w hw;cases hw
   ·rename_i q2
    have hk2:d.kind=2:=by omega
    split at hv
    ·cases hv
    ·rename_i q3
     split at hv
     ·rename_i q4
      refine ⟨by simp,fun _ h1=>by omega,fun _=>?_,ho.asc,?_⟩
      ·simp only [if_pos hk2,List.length_cons,List.length_nil]
       have:(getA e.attrs d.name).1.n=0:=by simpa using q3
       exact ⟨this,this,by simp⟩
      ·simp only [if_pos hk2,List.mem_cons,List.not_mem_nil,or_false]
       rintro w rfl
       exact q4
     ·cases hv
 ·rw [if_neg q] at ho ⊢
  exact ⟨by simp,fun h=>by simp at h,fun _=>by simp,ho.asc,by simp⟩
end
section
open Go.RowKit
variable {s:PSchema} {pv:List (List Int)}
theorem of_field (hc:checkE s=0) {k:Nat} (hk:k < s.defs.length) (l:List PEntry) (h0:0 < l.length) (he:∀e∈l,entryA s e=0):FB (s.defs.getD k default) (fieldOfP (s.defs.getD k default) l) l.length:=by
 revert he
 refine snoc_ind (P:=fun l=>(∀e∈l,entryA s e=0)→FB (s.defs.getD k default) (fieldOfP (s.defs.getD k default) l) l.length) (fun a he=>?_) (fun l a h0 ih he=>?_) l h0
 ·rw [fieldOfP_one]
  exact FB.one hc (he a (by simp)) hk
 ·rw [fieldOfP_snoc,List.length_append]
  have:=(ih fun e h=>he e (by simp [h])).join (FB.one hc (he a (by simp)) hk)
  rwa [show ((l.length + [a].length:Nat):Int)=(l.length:Int)+1 by simp]
theorem of_time (hc:checkE s=0) (l:List PEntry) (h0:0 < l.length) (he:∀e∈l,entryA s e=0):(0≤(tSt l).fromLo∧(tSt l).fromLo≤(tSt l).fromHi∧(tSt l).fromHi≤1048576)∧((tSt l).fromLo+1≤(tSt l).toHi∧(tSt l).toHi≤1048577)∧1≤(tSt l).bornLo∧(tSt l).bornLo≤(tSt l).bornHi∧(tSt l).bornHi≤1073741824:=by
 revert he
 refine snoc_ind (P:=fun l=>(∀e∈l,entryA s e=0)→(0≤(tSt l).fromLo∧(tSt l).fromLo≤(tSt l).fromHi∧(tSt l).fromHi≤1048576)∧((tSt l).fromLo+1≤(tSt l).toHi∧(tSt l).toHi≤1048577)∧1≤(tSt l).bornLo∧(tSt l).bornLo≤(tSt l).bornHi∧(tSt l).bornHi≤1073741824) (fun a he=>?_) (fun l a h0 ih he=>?_) l h0
 ·have:=(entry_facts hc (he a (by simp))).1
  rw [tSt_one]
  simp only [tOne]
  omega
 ·have h1:=(entry_facts hc (he a (by simp))).1
  have h2:=ih fun e h=>he e (by simp [h])
  rw [tSt_snoc h0]
  simp only [tStep,mnI_eq,mxI_eq]
  omega
theorem of_sumV (hc:checkE s=0) {l:List PEntry} (h:SumOK s pv l) (h0:0 < l.length) (hl:l.length≤4096) (he:∀e∈l,entryA s e=0):SumV s pv.length (ofL s pv l):=by
 have e0:=h.ent _ (getD_mem h0)
 obtain ⟨⟨v1,v2⟩,-⟩:=vecB_get e0.1
 have hb:=sum_box e0.2 l h0 h
 have ht:=of_time hc l h0 he
 rw [ofL_eq h h0 hl]
 refine ⟨by simp only;omega,hb.valid v1 v2,?_,by simp,shellsB_map h.len fun p hp=>shK_ok hp l h0 h,by simp,ht.1,ht.2.1,ht.2.2,fun k hk=>?_⟩
 ·simp only
  rw [hb.lo];exact e0.2
 ·simp only
  rw [map_getD _ hk]
  exact (of_field hc hk l h0 he).ok
theorem one_obeys (hc:checkE s=0) {e:PEntry} (h:SumOK s pv [e]) (he:entryA s e=0):obeysZ s pv (ofL s pv [e]) e=true:=by
 have e0:=h.ent e (by simp)
 obtain ⟨⟨v1,v2⟩,-⟩:=vecB_get e0.1
 have hb:=sum_box e0.2 [e] (by simp) h
 have hB:boxOfL ([e].map (·.vec))=⟨e.vec,e.vec⟩:=by simp [boxOfL]
 rw [hB] at hb
 rw [ofL_eq h (by simp) (by simp),hB,tSt_one]
 simp only [obeysZ,obeyK,tOne,withinB,Bool.and_eq_true,decide_eq_true_eq,List.all_eq_true,List.mem_range,List.length_map]
 refine ⟨he,?_,trivial,fun k hk=>?_,by simp,by simp,by simp,fun k hk=>?_⟩
 ·simp only [boxHas,hasK,hb.valid v1 v2,Bool.true_and,Bool.and_eq_true,decide_eq_true_eq,List.all_eq_true,List.mem_range]
  exact ⟨trivial,fun k _=>⟨Int.le_refl _,Int.le_refl _⟩⟩
 ·rw [map_getD _ hk,shK_one]
  simp only
  omega
 ·rw [map_getD _ hk,fieldOfP_one]
  unfold obeyF fldOne
  by_cases q:(getA e.attrs (s.defs.getD k default).name).2=true
  ·rw [if_neg (by rw [q];decide),if_pos q]
   simp only
   rw [if_neg (by decide)]
   split
   ·simp [withinB]
   ·split
    ·rename_i q2
     first|rw [if_pos q2]|skip
     simp [hasB,eqB]
    ·rfl
  ·rw [if_pos (by simpa using q),if_neg q]
   simp
theorem join_mono {n:Int} {a b c:PSum} (va:SumV s n a) (vb:SumV s n b) (vc:SumV s n c) (h:WithZ s b c) (hl:a.count+c.count≤4096) (v1:boxB (joinSum joinR s a b).1.box=true) (v2:boxB (joinSum joinR s a c).1.box=true):WithZ s (joinSum joinR s a b).1 (joinSum joinR s a c).1:=by
 have hcn:=h.count
 have na:=va.num
 have nb:=vb.num
 have nc:=vc.num
 have da:=va.dims
 have db:=vb.dims
 have dc:=vc.dims
 have bl:=boxB_le va.box
 have bl2:=boxB_le vb.box
 have bl3:=boxB_le vc.box
 unfold joinSum at *
 rw [if_neg (by omega),if_neg (by omega)] at *
 rw [if_neg (by omega),if_neg (by omega)] at *
 have j1:(boxJoin a.box b.box).1=⟨zipI min a.box.lo b.box.lo,zipI max a.box.hi b.box.hi⟩:=by
  unfold boxJoin;rw [if_pos (by simp only [va.box,vb.box,Bool.true_and,decide_eq_true_eq];omega)]
 have j2:(boxJoin a.box c.box).1=⟨zipI min a.box.lo c.box.lo,zipI max a.box.hi c.box.hi⟩:=by
  unfold boxJoin;rw [if_pos (by simp only [va.box,vc.box,Bool.true_and,decide_eq_true_eq];omega)]
 have s1:(shJoin a.shells b.shells).1=joinS a.shells b.shells:=by
  unfold shJoin;rw [if_pos (by simp only [va.shells,vb.shells,Bool.true_and,decide_eq_true_eq];omega)]
 have s2:(shJoin a.shells c.shells).1=joinS a.shells c.shells:=by
  unfold shJoin;rw [if_pos (by simp only [va.shells,vc.shells,Bool.true_and,decide_eq_true_eq];omega)]
 simp only [j1,j2,s1,s2] at v1 v2 ⊢
 refine ⟨by simp only;omega,⟨v1,v2,by simp only [zipI_len],by simp only [zipI_len];omega,fun k hk=>?_,fun k hk=>?_⟩,by simp [joinS],fun k hk=>?_,?_,?_,?_,fun k hk=>?_⟩
 ·simp only [zipI_len] at hk
  simp only
  rw [zipI_get hk,zipI_get hk,zipI_get (by omega)]
  have a1:=bl.2 k hk
  have a2:=h.box.los k (by omega)
  omega
 ·simp only [zipI_len] at hk
  simp only
  rw [zipI_get hk,zipI_get (by omega),zipI_get (by omega)]
  have a1:=bl.2 k hk
  have a2:=h.box.his k (by omega)
  omega
 ·have hk' : k < a.shells.length:=by simpa [joinS] using hk
  have hs:∀z:PSum,shellsB z.shells=true→k < z.shells.length→0≤(z.shells.getD k default).lo∧(z.shells.getD k default).lo≤(z.shells.getD k default).hi∧(z.shells.getD k default).hi≤134217728:=fun z hz hk=>by
   simp only [shellsB,Bool.and_eq_true,List.all_eq_true] at hz
   exact shellB_iff.1 (hz.1 _ (getD_mem hk))
  have g1:=hs b vb.shells (by omega)
  have g2:=hs c vc.shells (by omega)
  have g3:=h.sh k (by omega)
  have e:∀z:PSum,(joinS a.shells z.shells).getD k default=⟨min (min (a.shells.getD k default).lo (z.shells.getD k default).lo) (z.shells.getD k default).hi,max (max (a.shells.getD k default).hi (z.shells.getD k default).lo) (z.shells.getD k default).hi⟩:=fun z=>by
   simp [joinS,List.getD_eq_getElem?_getD,hk']
  simp only [e]
  omega
 ·have:=h.frm
  simp only [mnI_eq,mxI_eq];omega
 ·have:=h.to
  simp only [mxI_eq];omega
 ·have:=h.born
  simp only [mnI_eq,mxI_eq];omega
 ·have e:∀z:PSum,((List.range s.defs.length).map fun k=>joinR (a.fields.getD k default) (z.fields.getD k default)).getD k default=joinR (a.fields.getD k default) (z.fields.getD k default):=fun z=>by
   simp [List.getD_eq_getElem?_getD,hk]
  simp only [e]
  obtain ⟨o1,-,-⟩:=fieldB_ok (va.field k hk)
  obtain ⟨o2,-,-⟩:=fieldB_ok (vb.field k hk)
  obtain ⟨o3,-,-⟩:=fieldB_ok (vc.field k hk)
  have p1:=o1.has
  have p2:=o2.has
  have p3:=o3.has
  obtain ⟨f1,f2,f3⟩:=badF_iff.1 (h.fld k hk)
  generalize a.fields.getD k default=x at *
  generalize b.fields.getD k default=y at *
  generalize c.fields.getD k default=w at *
  have m1:=(mergeW_spec x.words y.words o1.asc o2.asc).2
  have m2:=(mergeW_spec x.words w.words o1.asc o3.asc).2
  refine badF_iff.2 ?_
  unfold joinR
  by_cases q1:x.has=0
  ·rw [if_pos q1,if_pos q1]
   exact ⟨f1,by omega,f3⟩
  ·rw [if_neg q1,if_neg q1]
   by_cases q2:y.has=0
   ·rw [if_pos q2]
    by_cases q3:w.has=0
    ·rw [if_pos q3]
     exact ⟨Int.le_refl _,by omega,fun _=>⟨Int.le_refl _,Int.le_refl _,fun v hv=>hasB_iff.2 hv⟩⟩
    ·rw [if_neg q3]
     simp only [mnI_eq,mxI_eq]
     exact ⟨by omega,by omega,fun _=>⟨by omega,by omega,fun v hv=>hasB_iff.2 ((m2 v).2 (.inl hv))⟩⟩
   ·rw [if_neg q2,if_neg (by omega)]
    simp only [mnI_eq,mxI_eq]
    obtain ⟨g1,g2,g3⟩:=f3 (by omega)
    exact ⟨by omega,by omega,fun _=>⟨by omega,by omega,fun v hv=>hasB_iff.2 ((m2 v).2 (((m1 v).1 hv).imp id fun h=>hasB_iff.1 (g3 v h)))⟩⟩
theorem SumOK.sub {X L:List PEntry} (h:SumOK s pv L) (hx:X ⊆ L):SumOK s pv X:=⟨h.met,h.len,h.piv,fun e he=>h.ent e (hx he)⟩
theorem sub_within (hc:checkE s=0) {X L:List PEntry} (hx:X.Sublist L):SumOK s pv L→0 < X.length→L.length≤4096→(∀e∈L,entryA s e=0)→WithZ s (ofL s pv X) (ofL s pv L):=by
 induction hx with
 |slnil=>intro _ h;simp at h
 | @cons X L a hx ih=>
  intro h h0 hl he
  have hL:0 < L.length:=Nat.lt_of_lt_of_le h0 hx.length_le
  have hS:SumOK s pv L:=h.sub (by simp)
  simp only [List.length_cons] at hl
  have i:=ih hS h0 (by omega) (fun e q=>he e (by simp [q]))
  have w1:withinZ s (ofL s pv L) (ofL s pv (L ++ [a]))=true:=within_of (h.sub (by intro x hx;simp at hx ⊢; exact hx.symm)) hL (by simp) (by simp;omega)
  have w2:ofL s pv (L ++ [a])=ofL s pv (a :: L):=of_comm (X := [a]) (Y:=L) h (by simp) hL (by simp;omega)
  rw [w2] at w1
  exact withinZ_iff.1 (with_trans i (withinZ_iff.1 w1))
 | @cons_cons X L a hx ih=>
  intro h _ hl he
  simp only [List.length_cons] at hl
  have hS:SumOK s pv L:=h.sub (by simp)
  have h1:SumOK s pv [a]:=h.sub (by simp)
  by_cases hX:0 < X.length
  ·have hL:0 < L.length:=Nat.lt_of_lt_of_le hX hx.length_le
   have hll:=hx.length_le
   have hXs:SumOK s pv X:=hS.sub hx.subset
   have hE:∀e∈L,entryA s e=0:=fun e q=>he e (by simp [q])
   have hXE:∀e∈X,entryA s e=0:=fun e q=>hE e (hx.subset q)
   have i:=ih hS hX (by omega) hE
   have vX:=of_sumV hc hXs hX (by omega) hXE
   have vL:=of_sumV hc hS hL (by omega) hE
   have va:=of_sumV hc h1 (by simp) (by simp) (fun e q=>he e (by simp at q;simp [q]))
   have sX:SumOK s pv ([a] ++ X):=h.sub (by intro x q;simp at q ⊢; exact q.imp id fun q=>hx.subset q)
   have jX:=join_of2 sX (by simp) hX (by simp;omega)
   have jL:=join_of2 (X := [a]) (Y:=L) h (by simp) hL (by simp;omega)
   have vX2:=of_sumV hc sX (by simp) (by simp;omega) (fun e q=>he e (by simp at q ⊢; exact q.imp id fun q=>hx.subset q))
   have vL2:=of_sumV hc h (by simp) (by simp;omega) he
   have m:=join_mono va vX vL i (by rw [ofL_eq h1 (by simp) (by simp),ofL_eq hS hL (by omega)];simp only [List.length_cons,List.length_nil];omega) (by rw [jX];exact vX2.box) (by rw [jL];exact vL2.box)
   rw [jX,jL] at m
   exact m
  ·have hX0:X = []:=List.eq_nil_of_length_eq_zero (by omega)
   subst hX0
   by_cases hL:0 < L.length
   ·exact withinZ_iff.1 (within_of (X := [a]) (Y:=L) h (by simp) hL (by simp;omega))
   ·have hL0:L = []:=List.eq_nil_of_length_eq_zero (by omega)
    subst hL0
    exact withinZ_iff.1 (with_self (of_sumV hc h1 (by simp) (by simp) (fun e q=>he e q)))
theorem mem_obeys (hc:checkE s=0) {L:List PEntry} (h:SumOK s pv L) (hl:L.length≤4096) (he:∀e∈L,entryA s e=0) {e:PEntry} (hm:e∈L):obeysZ s pv (ofL s pv L) e=true:=by
 have h1:SumOK s pv [e]:=h.sub (by simpa using hm)
 have w:=sub_within hc (List.singleton_sublist.2 hm) h (by simp) hl he
 exact with_obeys w (of_sumV hc h1 (by simp) (by simp) (fun x q=>by simp at q;rw [q];exact he e hm)) (one_obeys hc h1 (he e hm))
end
section
open Go.RowKit
mutual
/-- Conditions of a right form. -/
def okN (s:PSchema):PPred→Prop
 | .mk op nm n m w subs=>(op=4→subs.length=1)∧(op=6→(s.defs.getD (findI s.defs nm).toNat default).kind=1)∧okNL s subs
def okNL (s:PSchema):List PPred→Prop
 | []=>True
 |p :: l=>okN s p∧okNL s l
end
theorem chk1_okN {s:PSchema} {p:PPred} (h:chk1 s p=0):(p.op=4→p.subs.length=1)∧(p.op=6→(s.defs.getD (findI s.defs p.name).toNat default).kind=1):=by
 unfold chk1 at h
 split at h
 ·cases h
 ·rename_i h1
  split at h
  ·cases h
  ·rename_i h2
   refine ⟨fun h4=>?_,fun h6=>?_⟩
   ·rw [Bool.not_eq_false] at h2
    unfold formB at h2
    (repeat' split at h2)<;>first|(cases h2;done)|omega|(exact of_decide_eq_true h2)
   ·split at h
    ·omega
    ·split at h
     ·cases h
     ·split at h
      ·cases h
      ·rename_i h7
       rcases Classical.em ((s.defs.getD (findI s.defs p.name).toNat default).kind=1) with hk|hk
       ·exact hk
       ·exact absurd (.inl ⟨h6,hk⟩) h7
mutual
theorem ok_partsN {s:PSchema} : ∀p:PPred,(partsR p).length≤64→(∀x∈partsR p,chk1 s x=0)→okN s p
 | .mk op nm n m w subs,hl,hx=>by
  obtain ⟨h1,h2⟩:=chk1_okN (hx _ (partsR_self _))
  rw [partsR] at hl hx
  have hg:(partsG subs [.mk op nm n m w subs]).length < 1000:=by rw [List.length_take] at hl;omega
  rw [List.take_of_length_le (by omega)] at hl hx
  obtain ⟨-,g2⟩:=partsG_all subs _ hg
  rw [okN]
  exact ⟨h1,h2,ok_partsNL subs (fun q hq=>by have:=(g2 q hq).1;omega) (fun q hq x hxx=>hx x ((g2 q hq).2 x hxx))⟩
theorem ok_partsNL {s:PSchema} : ∀l:List PPred,(∀q∈l,(partsR q).length≤64)→(∀q∈l,∀x∈partsR q,chk1 s x=0)→okNL s l
 | [],_,_=>by rw [okNL];trivial
 |p :: l,h1,h2=>by
  rw [okNL]
  exact ⟨ok_partsN p (h1 p (by simp)) (h2 p (by simp)),ok_partsNL l (fun q hq=>h1 q (by simp [hq])) (fun q hq=>h2 q (by simp [hq]))⟩
end
theorem check_okN {s:PSchema} {p:PPred} (h:checkP s p=0):okN s p:=by
 obtain ⟨h1,h2⟩:=checkP_ok h
 exact ok_partsN p h1 h2
theorem obeys_fld {s:PSchema} {pv:List (List Int)} {z:PSum} {e:PEntry} (h:obeysZ s pv z e=true):∀k,k < s.defs.length→obeyF (s.defs.getD k default) (z.fields.getD k default) z.count e=true:=(obeyZ_of h).fld
end
section
open Go.RowKit
variable {s:PSchema} {pv:List (List Int)} {z:PSum} {e:PEntry} {n:Int}
mutual
theorem can_true (hc:checkE s=0) (hz:SumV s n z) (h:obeysZ s pv z e=true):∀p:PPred,okP s p→okK s p→okN s p→(holdsZ e.attrs p=true→(canZ s z p).yes=true)∧(holdsZ e.attrs p=false→(canZ s z p).no=true)
 | .mk op nm x y w subs,hp,hk,hn=>by
  rw [okP] at hp
  rw [okK] at hk
  rw [okN] at hn
  obtain ⟨h1,h2,h3,h4,h5⟩:=hp
  obtain ⟨k1,k2⟩:=hk
  obtain ⟨n1,n2,n3⟩:=hn
  have hL:=can_trueL hc hz h subs h5 k2 n3
  have ec:∀(f:PTruth→Bool),(canL s z subs).any f=subs.any fun q=>f (canZ s z q):=fun f=>by rw [canL_eq,List.any_map];rfl
  have hF:5≤op→∃k,k < s.defs.length∧(findI s.defs nm).toNat=k∧(s.defs.getD k default).name=nm:=fun h5=>by
   obtain ⟨d,hd⟩:=findI_get (h3 h5)
   have hlt:=(List.getElem?_eq_some_iff.1 hd).1
   refine ⟨_,hlt,rfl,?_⟩
   have:=findI_name (h3 h5) hd
   rw [getD_atW hlt]
   have e2:s.defs[(findI s.defs nm).toNat]=d:=by rw [List.getElem?_eq_getElem hlt] at hd;exact Option.some.inj hd
   rw [e2]
   exact toList_inj (by simpa [eqB] using this)
  rw [canZ,holdsZ]
  rcases (show op=1∨op=2∨op=3∨op=4∨op=5∨op=6∨op=7 by omega) with rfl|rfl|rfl|rfl|rfl|rfl|rfl
  ·rw [if_pos rfl,if_pos rfl]
   exact ⟨fun _=>rfl,fun g=>by cases g⟩
  ·rw [if_neg (by decide),if_pos rfl,if_neg (by decide),if_pos rfl,ec,ec,holdsA_eq]
   refine ⟨fun g=>?_,fun g=>?_⟩
   ·rw [List.all_eq_true] at g
    simp only [Bool.not_eq_true',List.any_eq_false]
    intro q hq
    have:=(hL q hq).1 (g q hq)
    simp [this]
   ·rw [List.all_eq_false] at g
    obtain ⟨q,hq,g⟩:=g
    simp only [List.any_eq_true]
    exact ⟨q,hq,(hL q hq).2 (by simpa using g)⟩
  ·rw [if_neg (by decide),if_neg (by decide),if_pos rfl,if_neg (by decide),if_neg (by decide),if_pos rfl,ec,ec,holdsO_eq]
   refine ⟨fun g=>?_,fun g=>?_⟩
   ·rw [List.any_eq_true] at g
    obtain ⟨q,hq,g⟩:=g
    simp only [List.any_eq_true]
    exact ⟨q,hq,(hL q hq).1 g⟩
   ·rw [List.any_eq_false] at g
    simp only [Bool.not_eq_true',List.any_eq_false]
    intro q hq
    have:=(hL q hq).2 (by simpa using g q hq)
    simp [this]
  ·have h0:=n1 rfl
   match subs,h0,hL with
   | [q],_,hL=>
    have g:=hL q (by simp)
    rw [if_neg (by decide),if_neg (by decide),if_neg (by decide),if_pos rfl,if_neg (by decide),if_neg (by decide),if_neg (by decide),if_pos rfl,canL_eq,holdsO_eq]
    simp only [List.any_cons,List.any_nil,Bool.or_false,List.map_cons,List.map_nil,List.getD_cons_zero,Bool.not_eq_true',Bool.not_eq_false']
    exact ⟨g.2,g.1⟩
  all_goals
   obtain ⟨k,hk,ek,en⟩:=hF (by decide)
   have ho:=obeys_fld h k hk
   have hb:=hz.field k hk
   obtain ⟨o1,o2,-⟩:=fieldB_ok hb
   have o3:=o1.has
   have hcn:=hz.count
   have hent:=(entry_facts hc (obeyZ_of h).ent).2 k hk
   rw [en] at hent
   unfold obeyF at ho
   rw [en] at ho
  ·rw [if_neg (show ¬(5:Int)=1 by decide),if_neg (show ¬(5:Int)=2 by decide),if_neg (show ¬(5:Int)=3 by decide),if_neg (show ¬(5:Int)=4 by decide),if_pos rfl,if_neg (show ¬(5:Int)=1 by decide),if_neg (show ¬(5:Int)=2 by decide),if_neg (show ¬(5:Int)=3 by decide),if_neg (show ¬(5:Int)=4 by decide)]
   unfold leafH
   rw [if_pos rfl]
   simp only [fieldAt,ek,decide_eq_true_eq]
   refine ⟨fun g=>?_,fun g=>?_⟩
   ·rw [if_neg (by rw [g];decide)] at ho
    split at ho
    ·cases ho
    ·omega
   ·rw [if_pos g] at ho
    have:¬(z.fields.getD k default).has=z.count:=by simpa using ho
    omega
  ·have kd:=n2 rfl
   rw [ek] at kd
   rw [if_neg (show ¬(6:Int)=1 by decide),if_neg (show ¬(6:Int)=2 by decide),if_neg (show ¬(6:Int)=3 by decide),if_neg (show ¬(6:Int)=4 by decide),if_neg (show ¬(6:Int)=5 by decide),if_pos rfl,if_neg (show ¬(6:Int)=1 by decide),if_neg (show ¬(6:Int)=2 by decide),if_neg (show ¬(6:Int)=3 by decide),if_neg (show ¬(6:Int)=4 by decide)]
   unfold leafH
   rw [if_neg (show ¬(6:Int)=5 by decide),if_pos rfl]
   simp only [fieldAt,ek]
   by_cases q:(getA e.attrs nm).2=true
   ·rw [if_neg (by rw [q];decide)] at ho
    split at ho
    ·cases ho
    ·rename_i q2
     first|rw [if_pos kd] at ho|skip
     simp only [withinB,Bool.and_eq_true,decide_eq_true_eq] at ho
     have hv:=hent q
     have hkk:(getA e.attrs nm).1.kind=1:=by
      unfold valueE at hv
      split at hv
      ·cases hv
      ·rename_i q3
       rw [←kd];exact Classical.not_not.1 q3
     rw [if_neg q2,q,hkk]
     simp only [Bool.true_and,Bool.and_eq_true,Bool.and_eq_false_iff,decide_eq_true_eq,decide_eq_false_iff_not,Bool.or_eq_true,decide_true]
     omega
   ·rw [if_pos (by simpa using q)] at ho
    have hh:¬(z.fields.getD k default).has=z.count:=by simpa using ho
    have q' : (getA e.attrs nm).2=false:=by simpa using q
    rw [q']
    refine ⟨fun g=>by simp at g,fun _=>?_⟩
    split
    ·rfl
    ·simp only [Bool.or_eq_true,decide_eq_true_eq]
     left;omega
  ·have kd:=k1 rfl
   rw [ek] at kd
   rw [if_neg (show ¬(7:Int)=1 by decide),if_neg (show ¬(7:Int)=2 by decide),if_neg (show ¬(7:Int)=3 by decide),if_neg (show ¬(7:Int)=4 by decide),if_neg (show ¬(7:Int)=5 by decide),if_neg (show ¬(7:Int)=6 by decide),if_neg (show ¬(7:Int)=1 by decide),if_neg (show ¬(7:Int)=2 by decide),if_neg (show ¬(7:Int)=3 by decide),if_neg (show ¬(7:Int)=4 by decide)]
   unfold leafH
   rw [if_neg (show ¬(7:Int)=5 by decide),if_neg (show ¬(7:Int)=6 by decide)]
   simp only [fieldAt,ek]
   by_cases q:(getA e.attrs nm).2=true
   ·rw [if_neg (by rw [q];decide)] at ho
    split at ho
    ·cases ho
    ·rename_i q2
     first|rw [if_neg (by omega),if_pos kd] at ho|rw [if_neg (by omega)] at ho|skip
     have hv:=hent q
     have hkk:(getA e.attrs nm).1.kind=2:=by
      unfold valueE at hv
      split at hv
      ·cases hv
      ·rename_i q3
       rw [←kd];exact Classical.not_not.1 q3
     rw [q,hkk]
     simp only [Bool.true_and,decide_true]
     refine ⟨fun g=>?_,fun g=>?_⟩
     ·have:(getA e.attrs nm).1.s=w:=toList_inj (by simpa [eqB] using g)
      rw [←this];exact ho
     ·rw [Bool.or_eq_true,List.any_eq_true]
      exact .inr ⟨_,hasB_iff.1 ho,by rw [g];rfl⟩
   ·rw [if_pos (by simpa using q)] at ho
    have hh:¬(z.fields.getD k default).has=z.count:=by simpa using ho
    have q' : (getA e.attrs nm).2=false:=by simpa using q
    rw [q']
    refine ⟨fun g=>by simp at g,fun _=>?_⟩
    simp only [Bool.or_eq_true,decide_eq_true_eq]
    left;omega
theorem can_trueL (hc:checkE s=0) (hz:SumV s n z) (h:obeysZ s pv z e=true):∀l:List PPred,okL s l→okKL s l→okNL s l→∀q∈l,(holdsZ e.attrs q=true→(canZ s z q).yes=true)∧(holdsZ e.attrs q=false→(canZ s z q).no=true)
 | [],_,_,_,q,hq=>by simp at hq
 |p :: l,hp,hk,hn,q,hq=>by
  rw [okL] at hp
  rw [okKL] at hk
  rw [okNL] at hn
  rcases List.mem_cons.1 hq with h1|hq
  ·rw [h1];exact can_true hc hz h p hp.1 hk.1 hn.1
  ·exact can_trueL hc hz h l hp.2 hk.2 hn.2 q hq
end
end
section
open Go.RowKit
theorem sq_nonneg (x:Int):0≤x * x:=by
 rcases Int.le_total 0 x with h|h
 ·exact Int.mul_nonneg h h
 ·exact Int.mul_nonneg_of_nonpos_of_nonpos h h
def keyK (m:Int) (f:Nat→Int) (n:Nat):Int:=keyD m ((List.range n).map f)
theorem keyK_succ (m:Int) (f:Nat→Int) (n:Nat):keyK m f (n+1)=addM m (keyK m f n) (f n):=by
 unfold keyK keyD
 rw [List.range_succ,List.map_append,List.foldl_append];rfl
theorem keyV_K (m:Int) (a b:List Int):keyV m a b=keyK m (fun k=>absI (a.getD k default - b.getD k default)) a.length:=by
 unfold keyV normI keyK zipI
 rw [List.map_map];rfl
theorem keyK_congr (m:Int) {f g:Nat→Int} (h:∀k,f k=g k) (n:Nat):keyK m f n=keyK m g n:=by
 have:f=g:=funext h
 rw [this]
theorem keyK_nonneg (m:Int) {f:Nat→Int} : ∀n,0≤keyK m (fun k=>absI (f k)) n
 |0=>Int.le_refl _
 |n+1=>by
  rw [keyK_succ]
  have h1:=keyK_nonneg m (f:=f) n
  have h2:0≤absI (f n):=by unfold absI;omega
  have h3:0≤absI (f n) * absI (f n):=Int.mul_nonneg h2 h2
  unfold addM
  split
  ·omega
  ·split<;>omega
def dotK (a b:Nat→Int):Nat→Int
 |0=>0
 |n+1=>dotK a b n+a n * b n
theorem cauchy_step {S A B x y:Int} (hA:0≤A) (hB:0≤B) (h:S * S≤A * B):(S+x * y) * (S+x * y)≤(A+x * x) * (B+y * y):=by
 have hx:0≤x * x:=sq_nonneg x
 have hy:0≤y * y:=sq_nonneg y
 have hP:0≤A * (y * y):=Int.mul_nonneg hA hy
 have hQ:0≤B * (x * x):=Int.mul_nonneg hB hx
 have h1:2 * (S * (x * y))≤A * (y * y)+B * (x * x):=by
  rcases Int.lt_or_le (A * (y * y)+B * (x * x)) (2 * (S * (x * y))) with hl|hl
  ·exfalso
   have e1:(A * (y * y)+B * (x * x)+1) * (A * (y * y)+B * (x * x)+1)≤2 * (S * (x * y)) * (2 * (S * (x * y))):=Int.mul_le_mul (by omega) (by omega) (by omega) (by omega)
   have e2:2 * (S * (x * y)) * (2 * (S * (x * y)))=4 * ((S * S) * ((x * x) * (y * y))):=by grind
   have e3:(S * S) * ((x * x) * (y * y))≤(A * B) * ((x * x) * (y * y)):=Int.mul_le_mul_of_nonneg_right h (Int.mul_nonneg hx hy)
   have e4:(A * (y * y)+B * (x * x)+1) * (A * (y * y)+B * (x * x)+1)=4 * ((A * B) * ((x * x) * (y * y)))+(A * (y * y) - B * (x * x)) * (A * (y * y) - B * (x * x))+2 * (A * (y * y)+B * (x * x))+1:=by grind
   have e5:0≤(A * (y * y) - B * (x * x)) * (A * (y * y) - B * (x * x)):=sq_nonneg _
   omega
  ·exact hl
 have e6:(S+x * y) * (S+x * y)=S * S+2 * (S * (x * y))+(x * x) * (y * y):=by grind
 have e7:(A+x * x) * (B+y * y)=A * B+(A * (y * y)+B * (x * x))+(x * x) * (y * y):=by grind
 omega
theorem cauchy (a b:Nat→Int):∀n,dotK a b n * dotK a b n≤keyK 2 (fun k=>absI (a k)) n * keyK 2 (fun k=>absI (b k)) n
 |0=>Int.le_refl _
 |n+1=>by
  have ih:=cauchy a b n
  have e:∀(f:Nat→Int),keyK 2 (fun k=>absI (f k)) (n+1)=keyK 2 (fun k=>absI (f k)) n+f n * f n:=fun f=>by
   rw [keyK_succ,addM,if_neg (by decide),if_pos rfl,absI_sq]
  rw [e,e,dotK]
  exact cauchy_step (keyK_nonneg 2 n) (keyK_nonneg 2 n) ih
theorem dist_two (a b:Nat→Int):∀n,keyK 2 (fun k=>absI (a k - b k)) n=keyK 2 (fun k=>absI (a k)) n+keyK 2 (fun k=>absI (b k)) n - 2 * dotK a b n
 |0=>rfl
 |n+1=>by
  have ih:=dist_two a b n
  have e:∀(f:Nat→Int),keyK 2 (fun k=>absI (f k)) (n+1)=keyK 2 (fun k=>absI (f k)) n+f n * f n:=fun f=>by
   rw [keyK_succ,addM,if_neg (by decide),if_pos rfl,absI_sq]
  rw [e (fun k=>a k - b k),e,e,ih,dotK]
  grind
theorem tri_one (m:Int) (hm:m≠2) (a b:Nat→Int):∀n,keyK m (fun k=>absI (a k)) n≤keyK m (fun k=>absI (b k)) n+keyK m (fun k=>absI (a k - b k)) n
 |0=>Int.le_refl _
 |n+1=>by
  have ih:=tri_one m hm a b n
  have h1:=keyK_nonneg m (f:=fun k=>a k - b k) n
  have h2:=keyK_nonneg m (f:=b) n
  rw [keyK_succ,keyK_succ,keyK_succ]
  unfold addM
  rw [if_neg hm,if_neg hm,if_neg hm]
  have h3:absI (a n)≤absI (b n)+absI (a n - b n):=by unfold absI;omega
  split<;>omega
theorem low_tri {m:Int} (hm:keyB m=true) (a b:Nat→Int) (n:Nat) (h1:keyK m (fun k=>absI (a k)) n≤134217728) (h2:keyK m (fun k=>absI (b k)) n≤134217728):lowM m (keyK m (fun k=>absI (a k)) n) (keyK m (fun k=>absI (b k)) n)≤keyK m (fun k=>absI (a k - b k)) n:=by
 have p1:=keyK_nonneg m (f:=a) n
 have p2:=keyK_nonneg m (f:=b) n
 by_cases h:m=2
 ·subst h
  have c:=cauchy a b n
  rw [dist_two]
  obtain ⟨b1,b2⟩:=four_bound (a:=keyK 2 (fun k=>absI (a k)) n) (c:=keyK 2 (fun k=>absI (b k)) n) ⟨p1,h1⟩ ⟨p2,h2⟩
  obtain ⟨-,r2⟩:=rootI_spec b1 b2
  have p3:=(rootI_bound (4 * keyK 2 (fun k=>absI (a k)) n * keyK 2 (fun k=>absI (b k)) n)).1
  unfold lowM
  rw [if_pos rfl]
  generalize keyK 2 (fun k=>absI (a k)) n=A at *
  generalize keyK 2 (fun k=>absI (b k)) n=B at *
  generalize dotK a b n=S at *
  generalize rootI (4 * A * B)=r at *
  rcases Int.lt_or_le r (2 * S) with hl|hl
  ·exfalso
   have e1:(r+1) * (r+1)≤2 * S * (2 * S):=Int.mul_le_mul (by omega) (by omega) (by omega) (by omega)
   have e2:2 * S * (2 * S)=4 * (S * S):=by grind
   have e3:4 * A * B=4 * (A * B):=by grind
   omega
  ·omega
 ·have t1:=tri_one m h a b n
  have t2:=tri_one m h b a n
  have e:keyK m (fun k=>absI (b k - a k)) n=keyK m (fun k=>absI (a k - b k)) n:=keyK_congr m (fun k=>by unfold absI;omega) n
  rw [e] at t2
  unfold lowM
  rw [if_neg h]
  omega
theorem gap_le {m a c lo hi:Int} (ha:0≤a∧a≤134217728) (hc:0≤c∧c≤134217728) (h1:lo≤c) (h2:c≤hi):gapM m lo hi a≤lowM m a c:=by
 unfold gapM
 refine lowM_away m ha hc ?_
 unfold clampI;omega
theorem lowF_le {m:Int} {l:List PShell} {keys:List Int} {b:Int} (hb:0≤b):∀n,(∀k,k < n→gapM m (l.getD k default).lo (l.getD k default).hi (keys.getD k default)≤b)→lowF m l keys n≤b
 |0,_=>hb
 |n+1,h=>by
  rw [lowF_succ]
  have h1:=lowF_le hb n (fun k hk=>h k (by omega))
  have h2:=h n (by omega)
  omega
theorem near_le {m:Int} {b:PBox} {v x:List Int} (hx:boxHas b x=true) (hv:vecB v=true) (hl:v.length=x.length) (hm:keyB m=true):(boxNear m b v).2=0∧(boxNear m b v).1≤keyV m v x:=by
 simp only [boxHas,hasK,Bool.and_eq_true,decide_eq_true_eq,List.all_eq_true,List.mem_range] at hx
 obtain ⟨h1,h2,h3⟩:=hx
 unfold boxNear
 rw [if_pos (by simp only [h1,hv,hm,Bool.and_true,Bool.true_and,decide_eq_true_eq];omega)]
 refine ⟨rfl,?_⟩
 rw [keyV_K]
 unfold keyK
 refine keyD_away m _ _ _ 0 0 (Int.le_refl _) fun k hk=>?_
 have hk' : k < v.length:=by simpa using hk
 have a1:=h3 k (by omega)
 unfold gapD absI
 omega
end
section
open Go.RowKit
variable {s:PSchema} {pv:List (List Int)} {z:PSum} {e:PEntry} {n:Int}
theorem key_bound (hm:keyB s.metric=true) (hz:SumV s n z) (h:ObeyZ s pv z e) (he:vecB e.vec=true) {v:List Int} (hv:vecB v=true) (hl:v.length=e.vec.length) (hp:∀k,k < pv.length→vecB (pv.getD k default)=true∧(pv.getD k default).length=v.length) :
  (zBound s z v (keysP s.metric pv v)).2=0∧(zBound s z v (keysP s.metric pv v)).1≤keyV s.metric v e.vec:=by
 obtain ⟨n1,n2⟩:=near_le h.box hv hl hm
 have hb:∀k,k < pv.length→0≤keyV s.metric (pv.getD k default) v∧keyV s.metric (pv.getD k default) v≤134217728:=fun k hk=>keyV_bound (hp k hk).1 hv
 have hb2:∀k,k < pv.length→0≤keyV s.metric (pv.getD k default) e.vec∧keyV s.metric (pv.getD k default) e.vec≤134217728:=fun k hk=>keyV_bound (hp k hk).1 he
 have ha:askB s.metric z.shells (keysP s.metric pv v)=true:=by
  simp only [askB,hm,hz.shells,Bool.true_and,Bool.and_eq_true,decide_eq_true_eq,keysP_len,List.all_eq_true,h.num,true_and]
  intro x hx
  obtain ⟨k,hk,rfl⟩:=List.getElem_of_mem hx
  have hk' : k < pv.length:=by rw [keysP_len] at hk;exact hk
  have:=hb k hk'
  rw [←keysP_get hk',getD_atW hk] at this
  rw [hasP,Bool.and_eq_true]
  exact ⟨decide_eq_true this.1,decide_eq_true this.2⟩
 have hl3:lowF s.metric z.shells (keysP s.metric pv v) z.shells.length≤keyV s.metric v e.vec:=by
  refine lowF_le (keyV_bound hv he).1 _ fun k hk=>?_
  rw [h.num] at hk
  have h1:=h.keys k hk
  simp only [obeyK,withinB,Bool.and_eq_true,decide_eq_true_eq] at h1
  rw [keysP_get hk]
  refine Int.le_trans (gap_le (hb k hk) (hb2 k hk) h1.1 h1.2) ?_
  have q1:=hb k hk
  have q2:=hb2 k hk
  have hlp:=(hp k hk).2
  rw [keyV_K] at q1 q2 ⊢
  rw [keyV_K s.metric (pv.getD k default) e.vec,keyV_K s.metric v e.vec]
  rw [hlp] at q1 q2 ⊢
  refine Int.le_trans (low_tri hm _ _ v.length q1.2 q2.2) (Int.le_of_eq (keyK_congr _ (fun i=>?_) _))
  unfold absI
  omega
 unfold zBound lowP
 rw [if_pos ha]
 simp only
 rw [if_neg (by simp [n1])]
 refine ⟨rfl,?_⟩
 show max _ _≤_
 omega
end
end Go.Proofs.YtoamkpgaaanafaaGreat
