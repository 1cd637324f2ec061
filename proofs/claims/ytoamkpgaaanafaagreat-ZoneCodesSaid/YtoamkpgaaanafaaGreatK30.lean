/- Out of: Ua, Ub, Ch. -/
import Derived.Test.YtoamkpgaaanafaaGreatK1
import Derived.Test.YtoamkpgaaanafaaGreatK2
import Derived.Test.YtoamkpgaaanafaaGreatK4
import Derived.Test.YtoamkpgaaanafaaGreatK5
import Derived.Test.YtoamkpgaaanafaaGreatK6
import Derived.Test.YtoamkpgaaanafaaGreatK8
import Derived.Test.YtoamkpgaaanafaaGreatK9
import Derived.Test.YtoamkpgaaanafaaGreatK10
import Derived.Test.YtoamkpgaaanafaaGreatK11
import Derived.Test.YtoamkpgaaanafaaGreatK12
import Derived.Test.YtoamkpgaaanafaaGreatK13
import Derived.Test.YtoamkpgaaanafaaGreatK18
import Derived.Test.YtoamkpgaaanafaaGreatK20
import Derived.Test.YtoamkpgaaanafaaGreatK21
import Derived.Test.YtoamkpgaaanafaaGreatK22
import Derived.Test.YtoamkpgaaanafaaGreatK23
import Derived.Test.YtoamkpgaaanafaaGreatK24
import Derived.Test.YtoamkpgaaanafaaGreatK25
import Derived.Test.YtoamkpgaaanafaaGreatK27
import Derived.Test.YtoamkpgaaanafaaGreatK28
namespace Go.Proofs.YtoamkpgaaanafaaGreat
set_option linter.unusedSimpArgs false
set_option linter.unusedVariables false
set_option linter.unnecessarySimpa false
section
open Go.RowKit
theorem PCalls.weakA {P:Program} {f:FuncId} {args args' : List PV} {post:PV→Prop} (h:PCalls P f args post) (hw:WeakL args' args):PCalls P f args' post:=by
 refine ⟨h.1,fun Φ μ w vs h1 hgl h2=>h.2 Φ μ w vs h1 hgl ⟨by rw [h2.1,hw.len],fun j p v hp hv=>?_⟩⟩
 obtain ⟨q,hq,hpq⟩:=hw.get j p hp
 exact hpq.1 Φ μ v (h2.2 j q v hq hv)
def nColour:ByteArray:=⟨#[99,111,108,111,117,114]⟩
def nWeight:ByteArray:=⟨#[119,101,105,103,104,116]⟩
def nBlue:ByteArray:=⟨#[98,108,117,101]⟩
def nRed:ByteArray:=⟨#[114,101,100]⟩
def exS:PSchema:=⟨1,1,[⟨nColour,2,0,0,[nBlue,nRed]⟩,⟨nWeight,1,0,9,[]⟩]⟩
def exA:PEntry:=⟨1,1,1,0,1,9,1,[3],[⟨nColour,2,0,nRed⟩]⟩
def exB:PEntry:=⟨2,1,1,0,5,1048577,4,[7],[⟨nColour,2,0,nBlue⟩,⟨nWeight,1,2,ByteArray.empty⟩]⟩
def exO:PEntry:=⟨1,1,1,0,1,9,1,[3],[⟨nColour,2,0,nRed⟩,⟨nWeight,1,3,ByteArray.empty⟩]⟩
def exZ:PSum:=⟨2,⟨[3],[7]⟩,[],1,5,1048577,1,4,[⟨2,0,0,[nBlue,nRed]⟩,⟨1,2,2,[]⟩]⟩
def mergeN:Nat→List ByteArray→List ByteArray→List ByteArray
 |0,_,_ => []
 |_+1,[],b=>b
 |_+1,x :: a,[]=>x :: a
 |n+1,x :: a,y :: b=>if Op.bytesLess x.toList y.toList=true then x :: mergeN n a (y :: b) else if x.toList == y.toList then y :: mergeN n a b else y :: mergeN n (x :: a) b
theorem mergeN_W:∀(n:Nat) (a b:List ByteArray),a.length+b.length < n→mergeN n a b=mergeW a b
 |0,a,b,h=>by omega
 |n+1,[],b,h=>by rw [mergeN,mergeW]
 |n+1,x :: a,[],h=>by rw [mergeN,mergeW]
 |n+1,x :: a,y :: b,h=>by
  simp only [List.length_cons] at h
  rw [mergeN,mergeW,mergeN_W n a (y :: b) (by simp only [List.length_cons];omega),mergeN_W n a b (by omega),mergeN_W n (x :: a) b (by simp only [List.length_cons];omega)]
def joinRN (a b:PField):PField:=if a.has=0 then b else if b.has=0 then a else ⟨a.has+b.has,mnI a.lo b.lo,mxI a.hi b.hi,mergeN (a.words.length+b.words.length+1) a.words b.words⟩
theorem joinR_N:joinR=joinRN:=by
 funext a b
 unfold joinR joinRN
 rw [mergeN_W _ _ _ (by omega)]
theorem refL_ex:refL exS [] [exA,exB]=exZ:=by
 unfold refL
 rw [joinR_N]
 kernel_rfl
theorem exE1:entryE exS exA=0:=by kernel_rfl
theorem exE2:entryE exS exB=0:=by kernel_rfl
theorem exC:checkE exS=0:=by kernel_rfl
theorem zOf_ex:zOf exS [] [exA,exB]=(exZ,0):=by
 rw [zOf_ref]
 unfold refOf
 rw [if_neg (by rw [exC];simp),if_neg (by simp [exE1,exE2]),if_neg (by simp),refL_ex]
theorem exEnc:EncOK exZ:=by
 refine ⟨?_,?_,?_,?_,?_,by decide,by decide,by decide,by decide,by decide,?_⟩
 ·intro x hx
  simp only [headZ,exZ,List.mem_cons,List.not_mem_nil,or_false] at hx
  omega
 ·intro x hx
  simp only [exZ,List.mem_cons,List.not_mem_nil,or_false] at hx
  omega
 ·intro x hx
  simp only [exZ,List.mem_cons,List.not_mem_nil,or_false] at hx
  omega
 ·intro x hx
  simp [exZ] at hx
 ·intro x hx
  simp only [exZ,List.mem_cons,List.not_mem_nil,or_false] at hx
  rcases hx with rfl|rfl
  ·exact ⟨⟨by simp,by simp⟩,⟨by simp,by simp⟩,⟨by simp,by simp⟩⟩
  ·exact ⟨⟨by simp,by simp⟩,⟨by simp,by simp⟩,⟨by simp,by simp⟩⟩
 ·intro x hx
  have:x=nBlue∨x=nRed:=by simpa [flW,exZ] using hx
  rcases this with rfl|rfl<;>decide
def exSraw:PV:=.agg [pint 1,pint 1, .sl 2 5 [pstr nColour,pint 2,pint 0,pint 0, .sl 2 1 [pstr nBlue,pstr nRed] none,pstr nWeight,pint 1,pint 0,pint 9, .nilsl] none]
theorem weak_exS:Weak exSraw (pschema exS):=
 .agg (.cons (.refl _) (.cons (.refl _) (.cons (.sl (.cons (.refl _) (.cons (.refl _) (.cons (.refl _) (.cons (.refl _) (.cons (.refl _) (.cons (.refl _) (.cons (.refl _) (.cons (.refl _) (.cons (.refl _) (.cons (.nil 1) .nil))))))))))) .nil)))
set_option maxRecDepth 10000 in
set_option maxHeartbeats 1000000 in
theorem pw_example:PCalls Tryz.prog 52 [] (· = .tup [pschema exS,pentries [exA,exB]]):=by
 refine PCalls.weak ?_
 refine pcalls_of_pw typeTab_ok Tryz.func52 rfl (by kernel_rfl) (by simp) (by simp) (by rw [Tryz.ntmps52];simp) ?_
 rw [Tryz.ntmps52,Tryz.results52]
 refine PW.seq ?_
 refine PW.region typeTab_ok (by kernel_rfl) ?_
 refine wg ?_
 refine PW.region typeTab_ok (by kernel_rfl) ?_
 refine wg ?_
 refine PW.region typeTab_ok (by kernel_rfl) ?_
 refine wg ?_
 refine PW.region typeTab_ok (by kernel_rfl) ?_
 refine wg ?_
 refine PW.drawE typeTab_ok (by kernel_rfl) (by kernel_rfl) (by kernel_rfl) ?_
 refine wk ?_
 refine retP (r:=.tup [exSraw,pentries [exA,exB]]) rfl ?_ (.tup (.cons weak_exS (.cons (.refl _) .nil)))
 simp [low_tup,low_pentries,exSraw,low_agg,low_pint,low_sl,low_pstr,low_nilsl]
theorem ex1:sumB exS 0 exZ=true:=by kernel_rfl
theorem ex2:zBound exS exZ [0] []=(3,0):=by kernel_rfl
def p1:PPred:=.mk 6 nWeight 0 1 ByteArray.empty []
def p2:PPred:=.mk 7 nColour 0 0 nRed []
def p3:PPred:=.mk 5 nWeight 0 0 ByteArray.empty []
theorem ex3:canZ exS exZ p1=⟨false,true⟩:=by kernel_rfl
theorem ex4:canZ exS exZ p2=⟨true,true⟩:=by kernel_rfl
theorem ex5:canZ exS exZ p3=⟨true,true⟩:=by kernel_rfl
theorem ex6:zSeen exZ ⟨0,9⟩=false:=by kernel_rfl
theorem ex7:zSeen exZ ⟨1,0⟩=false:=by kernel_rfl
theorem ex8:zSeen exZ ⟨3,2⟩=true:=by kernel_rfl
theorem ex9:obeysZ exS [] exZ exA=true:=by kernel_rfl
theorem ex10:obeysZ exS [] exZ exO=false:=by kernel_rfl
theorem exF1:findI exS.defs nWeight=1:=by kernel_rfl
theorem exF2:findI exS.defs nColour=0:=by kernel_rfl
theorem smallS_ex:SmallS exS:=by
 have:FewS exS:=fewDefsB_few (by kernel_rfl)
 exact this.small
theorem smallZ_ex:SmallZ exZ:=⟨by decide,by decide,by decide,by decide,fun k=>by
 match k with
 |0=>decide
 |1=>decide
 |k+2=>exact (by decide:(0:Nat)≤1000000)⟩
theorem smallW_ex:SmallW exS exZ:=⟨by decide,by decide,by decide,smallZ_ex.2.2.2.2⟩
theorem okP_ex {op n m:Int} {nm w:ByteArray} (h1:5≤op) (h2:op≤7) (h3:0≤findI exS.defs nm):okP exS (.mk op nm n m w []):=by
 rw [okP]
 exact ⟨⟨by omega,h2⟩,fun h=>by omega,fun _=>h3,by simp,by rw [okL];trivial⟩
def exWant:PV:=.agg [pint 2,pints [3],pints [7], .nilsl,pint 1,pint 5,pint 1048577,pint 1,pint 4, .sl 2 4 [pint 2,pint 0,pint 0, .sl 2 1 [pstr nBlue,pstr nRed] none,pint 1,pint 2,pint 2, .nilsl] none]
theorem weak_want:Weak exWant (psum exZ):=.agg (.cons (.refl _) (.cons (.refl _) (.cons (.refl _) (.cons (.nil 2) (.cons (.refl _) (.cons (.refl _) (.cons (.refl _) (.cons (.refl _) (.cons (.refl _) (.cons (.sl (.cons (.refl _) (.cons (.refl _) (.cons (.refl _) (.cons (.refl _) (.cons (.refl _) (.cons (.refl _) (.cons (.refl _) (.cons (.nil 1) .nil))))))))) .nil))))))))))
def prRaw (p:PPred):PV:=.agg [pint p.op,pstr p.name,pint p.n,pint p.m,pstr p.s, .nilsl]
theorem weak_pr (p:PPred) (h:p.subs = []):Weak (prRaw p) (ppred p):=by
 unfold ppred
 rw [prL_eq,h]
 exact .agg (.cons (.refl _) (.cons (.refl _) (.cons (.refl _) (.cons (.refl _) (.cons (.refl _) (.cons (.nil 6) .nil))))))
theorem canOf {p:PPred} {t:PTruth} (h:canZ exS exZ p=t) (hs:p.subs = []) (ho:okP exS p):PCalls Tryz.prog 31 [pschema exS,psum exZ,prRaw p] (· = .tup [pbool t.yes,pbool t.no]):=by
 have:=pw_can smallW_ex p ho
 rw [h] at this
 exact this.weakA (.cons (.refl _) (.cons (.refl _) (.cons (weak_pr p hs) .nil)))
theorem obeysOf {e:PEntry} {b:Bool} (h:obeysZ exS [] exZ e=b) (hv:e.vec = [3]) (ha:e.attrs.length≤1000000):PCalls Tryz.prog 22 [pschema exS, .nilsl,psum exZ,pentry e] (· = pbool b):=by
 have:=pw_obeys exS [] exZ e smallZ_ex smallS_ex (by rw [hv];decide) ha (by decide) (by decide) (fun k hk=>by simp at hk) (fun _=>by rw [hv];exact ⟨by decide,by decide⟩) (by decide)
 rw [h] at this
 exact this.weakA (.cons (.refl _) (.cons (.nil 1) (.cons (.refl _) (.cons (.refl _) .nil))))
set_option maxRecDepth 10000 in
set_option maxHeartbeats 8000000 in
theorem pw_sanity:PCalls Tryz.prog 14 [] (· = pbool true):=by
 have c0:=pw_example
 have c1:PCalls Tryz.prog 15 [pschema exS, .nilsl,pentries [exA,exB]] (· = .tup [psum exZ,pint 0]):=by
  have:=pw_zOf exS [] [exA,exB] smallS_ex (by simp) (by simp) (by simp) (fun k hk=>by
   match k,hk with
   |0,_=>exact ⟨by decide,by decide,by decide⟩
   |1,_=>exact ⟨by decide,by decide,by decide⟩)
  rw [zOf_ex] at this
  exact this.weakA (.cons (.refl _) (.cons (.nil 1) (.cons (.refl _) .nil)))
 have c2:PCalls Tryz.prog 17 [psum exZ,exWant] (· = pbool true):=by
  have:=pw_rSame exZ exZ exEnc exEnc
  rw [show ((strI (encZ exZ)).toList == (strI (encZ exZ)).toList)=true by simp] at this
  exact this.weakA (.cons (.refl _) (.cons weak_want .nil))
 have c3:PCalls Tryz.prog 19 [pschema exS,pint 0,psum exZ] (· = pbool true):=by
  have:=pw_sumValid exS 0 exZ smallZ_ex (by decide) (fun k=>by
   match k with
   |0=>decide
   |1=>decide
   |k+2=>exact (by decide:(0:Nat)≤1000000))
  rw [ex1] at this
  exact this
 have c4:PCalls Tryz.prog 25 [pschema exS,psum exZ,pints [0], .nilsl] (· = .tup [pint 3,pint 0]):=by
  have:=pw_zBound exS exZ [0] [] smallZ_ex (by decide) (by decide)
  rw [ex2] at this
  exact this.weakA (.cons (.refl _) (.cons (.refl _) (.cons (.refl _) (.cons (.nil 1) .nil))))
 have c5:=canOf ex3 rfl (okP_ex (by decide) (by decide) (by rw [exF1];decide))
 have c6:=canOf ex4 rfl (okP_ex (by decide) (by decide) (by rw [exF2];decide))
 have c7:=canOf ex5 rfl (okP_ex (by decide) (by decide) (by rw [exF1];decide))
 have c8:=pw_zSeen exZ ⟨0,9⟩
 have c9:=pw_zSeen exZ ⟨1,0⟩
 have c10:=pw_zSeen exZ ⟨3,2⟩
 rw [ex6] at c8
 rw [ex7] at c9
 rw [ex8] at c10
 have c11:=obeysOf (e:=exA) ex9 rfl (by decide)
 have c12:=obeysOf (e:=exO) ex10 rfl (by decide)
 have l1:=low_schCells exS
 have l2:=low_psumL exZ
 have l3:=low_entCells exA
 have l4:=low_entCells exO
 have l5:Low (pentries [exA,exB]):=(low_pentries _).2 trivial
 have l6:∀c ∈ [pint 2,pints [3],pints [7], .nilsl,pint 1,pint 5,pint 1048577,pint 1,pint 4, .sl 2 4 [pint 2,pint 0,pint 0, .sl 2 1 [pstr nBlue,pstr nRed] none,pint 1,pint 2,pint 2, .nilsl] none],Low c:=by
  simp [low_pints,low_pint,low_sl,low_pstr,low_nilsl]
 refine pcalls_of_pw typeTab_ok Tryz.func14 rfl (by kernel_rfl) (by simp) (by simp) (by rw [Tryz.ntmps14];simp) ?_
 rw [Tryz.ntmps14,Tryz.results14]
 have hl2 : [exA,exB].length=2:=rfl
 have hl3:exA.attrs.length=1:=rfl
 unfold exWant at c2
 unfold prRaw p1 at c5
 unfold prRaw p2 at c6
 unfold prRaw p3 at c7
 unfold psnap at c8 c9 c10
 refine wk ?_
 exact retP rfl (by exact lw) rfl
theorem lebB2:∀(z:Nat),∀c∈leb z,0≤c∧c < 256:=by
 intro z
 induction z using Nat.strongRecOn with
 |_ z ih=>
  intro c hc
  by_cases h:z < 128
  ·rw [leb_small z h] at hc;simp at hc;omega
  ·rw [leb_big z (by omega)] at hc
   rcases List.mem_cons.1 hc with rfl|hc
   ·omega
   ·exact ih (z / 128) (by omega) c hc
theorem intsBB2 (ds:List Int):∀c∈intsB ds,0≤c∧c < 256:=fun c hc=>by
 rw [intsB,List.mem_append] at hc
 rcases hc with hc|hc
 ·exact lebB2 _ c hc
 ·simp only [List.mem_flatten,List.mem_map] at hc
  obtain ⟨l,⟨z,-,rfl⟩,hc⟩:=hc
  exact lebB2 _ c hc
theorem strsBB2 (ds:List ByteArray):∀c∈strsB ds,0≤c∧c < 256:=fun c hc=>by
 rw [strsB,List.mem_append] at hc
 rcases hc with hc|hc
 ·exact lebB2 _ c hc
 ·obtain ⟨l,hl,hcl⟩:=List.mem_flatten.1 hc
  obtain ⟨d,_,rfl⟩:=List.mem_map.1 hl
  rw [strB,List.mem_append] at hcl
  rcases hcl with h|h
  ·exact lebB2 _ c h
  ·exact bytesL_byte d c h
theorem getN_fit2:∀(n:Nat) (bs:List Int),Byte bs→∀z∈(getN n bs).1,Fit64 z
 |0,bs,_,z,h=>by simp [getN] at h
 |n+1,bs,hby,z,h=>by
  rw [getN] at h
  split at h
  ·simp at h
  ·rename_i h1
   split at h
   ·simp at h
   ·rcases List.mem_cons.1 h with rfl|h
    ·obtain ⟨-,-,h3,h4⟩:=getI_ok bs hby.all (by simpa using h1)
     exact ⟨h3,h4⟩
    ·exact getN_fit2 n _ (hby.drop _) z h
theorem getInts_fit2 (bs:List Int) (hby:Byte bs):∀z∈(getInts bs).1,Fit64 z:=by
 intro z h
 rw [getInts] at h
 split at h
 ·simp at h
 ·rw [andThen] at h
  split at h
  ·simp at h
  ·exact getN_fit2 _ _ (hby.drop _) z (by simpa using h)
theorem decZ_enc {z:PSum} (h:EncOK z):decZ (encZ z)=(z,0):=by
 have hf:=numsZ_fit h
 have hl:=numsZ_len z
 obtain ⟨-,-,-,-,-,n1,n2,n3,n4,n5,hw⟩:=h
 have h1:getInts (encZ z)=(numsZ z,((intsB (numsZ z)).length:Int),0):=getInts_rest _ _ hf (by omega)
 have h2:(encZ z).drop (intsB (numsZ z)).length=strsB (flW z.fields) ++ []:=by rw [encZ,List.drop_left];simp
 have h3:=getStrs_rest (flW z.fields) [] hw (by omega)
 have h9:((intsB (numsZ z)).length:Int)+((strsB (flW z.fields)).length:Int)=((encZ z).length:Int):=by rw [encZ,List.length_append];rfl
 have h8:=fin_dec (n:=numsZ z) (w:=flW z.fields) (z:=z) ⟨rfl,rfl⟩
 rw [←h2] at h3
 generalize encZ z=bs at *
 unfold decZ
 rw [h1]
 simp only
 rw [if_neg (by simp),Int.toNat_natCast,h3]
 simp only
 rw [if_neg (by simp),decide_eq_false (fun h=>h h9)]
 exact h8
theorem decZ_cases {bs:List Int} (hby:∀c∈bs,0≤c∧c < 256):((decZ bs).1=zeroZ∧(decZ bs).2≠0)∨∃U:Nat,∃u2,(decZ bs).2=0∧getInts bs=(numsZ (decZ bs).1,(U:Int),0)∧getStrs (bs.drop U)=(flW (decZ bs).1.fields,u2,0)∧(U:Int)+u2=bs.length:=by
 obtain ⟨n,u,e,h1⟩:∃n u e,getInts bs=(n,u,e):=⟨_,_,_,rfl⟩
 unfold decZ
 rw [h1]
 simp only
 by_cases g:e=0
 ·subst g
  obtain ⟨t1,t2,t3⟩:=getInts_take bs n u hby h1
  obtain ⟨U,rfl⟩:∃N:Nat,u=N:=⟨u.toNat,by omega⟩
  obtain ⟨s,u2,e2,h2⟩:∃s u2 e2,getStrs (bs.drop U)=(s,u2,e2):=⟨_,_,_,rfl⟩
  rw [if_neg (by simp),Int.toNat_natCast,h2]
  simp only
  by_cases g2:e2=0
  ·subst g2
   rw [if_neg (by simp)]
   by_cases g3:(U:Int)+u2=bs.length
   ·rw [decide_eq_false (by simp [g3])]
    rcases Classical.em (∃z,IsDec n s z) with ⟨z,hz⟩|hz
    ·right
     rw [fin_dec hz]
     obtain ⟨rfl,rfl⟩:=hz
     exact ⟨U,u2,rfl,rfl,h2,g3⟩
    ·left
     rw [fin_not (fun z h=>hz ⟨z,h⟩)]
     exact ⟨rfl,by simp⟩
   ·left
    rw [decide_eq_true g3,fin_bad]
    exact ⟨rfl,by simp⟩
  ·left
   rw [if_pos g2]
   exact ⟨rfl,g2⟩
 ·left
  rw [if_pos g]
  exact ⟨rfl,g⟩
theorem enc_decZ {bs:List Int} (hby:∀c∈bs,0≤c∧c < 256) (h:(decZ bs).2=0):encZ (decZ bs).1=bs:=by
 rcases decZ_cases hby with ⟨-,h0⟩|⟨U,u2,-,h1,h2,h3⟩
 ·exact absurd h h0
 ·obtain ⟨t1,t2,t3⟩:=getInts_take bs _ _ hby h1
  obtain ⟨q1,q2,q3⟩:=getStrs_take (bs.drop U) _ u2 (fun c hc=>hby c (List.mem_of_mem_drop hc)) h2
  rw [List.length_drop] at q3
  rw [Int.toNat_natCast] at t1
  rw [List.take_of_length_le (by rw [List.length_drop];omega)] at q1
  rw [encZ,←t1,←q1,List.take_append_drop]
theorem decZ_ok {bs:List Int} (hby:∀c∈bs,0≤c∧c < 256) (hf:∀z∈(getInts bs).1,Fit64 z) (hl:bs.length≤5000):EncOK (decZ bs).1:=by
 rcases decZ_cases hby with ⟨h0,-⟩|⟨U,u2,-,h1,h2,h3⟩
 ·rw [h0];exact zero_enc.enc
 ·have t8:=getInts_short bs _ _ hby h1
  have t9:=getStrs_len (bs.drop U) _ u2 (fun c hc=>hby c (List.mem_of_mem_drop hc)) h2
  rw [List.length_drop] at t9
  have hn:=numsZ_len (decZ bs).1
  rw [h1] at hf
  simp only at hf
  generalize (decZ bs).1=y at *
  have e:numsZ y=headZ y ++ ((y.box.lo.length:Int) :: y.box.lo ++ ((y.box.hi.length:Int) :: y.box.hi ++ ((y.shells.length:Int) :: shN y.shells ++ ((y.fields.length:Int) :: flN y.fields)))):=by simp [numsZ,boxN]
  rw [e] at hf
  simp only [List.mem_append,List.mem_cons] at hf
  refine ⟨fun z hz=>hf z (.inl hz),fun z hz=>hf z (.inr (.inl (.inr hz))),fun z hz=>hf z (.inr (.inr (.inl (.inr hz)))),fun s hs=>?_,fun f hs=>?_,by omega,by omega,by omega,by omega,by omega,fun w hw=>by have:=t9.2 w hw;omega⟩
  ·have k:∀z ∈ [s.lo,s.hi],Fit64 z:=fun z hz=>hf z (.inr (.inr (.inr (.inl (.inr (List.mem_flatMap.2 ⟨s,hs,hz⟩))))))
   exact ⟨k _ (by simp),k _ (by simp)⟩
  ·have k:∀z ∈ [f.has,f.lo,f.hi,(f.words.length:Int)],Fit64 z:=fun z hz=>hf z (.inr (.inr (.inr (.inr (.inr (List.mem_flatMap.2 ⟨f,hs,hz⟩))))))
   exact ⟨k _ (by simp),k _ (by simp),k _ (by simp)⟩
theorem strsB_few (l:List ByteArray) (h:∀s∈l,s.size≤1000) (hl:l.length≤20000):(strsB l).length≤10+1010 * l.length:=by
 rw [strsB,List.length_append]
 have h3:=(intB_len l.length (by omega) (by omega)).2
 have h4:∀l:List ByteArray,(∀s∈l,s.size≤1000)→((l.map strB).flatten).length≤1010 * l.length:=by
  intro l
  induction l with
  |nil=>simp
  |cons s l ih=>
   intro h
   have a1:=ih (fun x hx=>h x (List.mem_cons_of_mem _ hx))
   have a2:=h s (List.mem_cons_self ..)
   have a3:=(intB_len s.size (by omega) (by omega)).2
   simp only [List.map_cons,List.flatten_cons,List.length_append,List.length_cons,strB,bytesL_len]
   omega
 have:=h4 l h
 omega
theorem encZ_few {z:PSum} (h:NumZ z) (hf:(flW z.fields).length≤20000):(encZ z).length≤100000000:=by
 have h1:=(encZ_bound h.enc).1
 have h2:=strsB_few (flW z.fields) (fun w hw=>by
  obtain ⟨f,hf,hw2⟩:=List.mem_flatMap.1 hw
  exact (h.fields f hf).2.2 w hw2) hf
 rw [encZ,List.length_append]
 omega
end
end Go.Proofs.YtoamkpgaaanafaaGreat
