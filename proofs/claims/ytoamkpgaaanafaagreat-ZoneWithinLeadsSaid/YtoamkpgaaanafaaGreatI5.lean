/- Out of: Wk, Wm. -/
import Derived.Test.YtoamkpgaaanafaaGreatG1
import Derived.Test.YtoamkpgaaanafaaGreatG11
import Derived.Test.YtoamkpgaaanafaaGreatG12
import Derived.Test.YtoamkpgaaanafaaGreatG14
import Derived.Test.YtoamkpgaaanafaaGreatG15
import Derived.Test.YtoamkpgaaanafaaGreatG2
import Derived.Test.YtoamkpgaaanafaaGreatG21
import Derived.Test.YtoamkpgaaanafaaGreatG23
import Derived.Test.YtoamkpgaaanafaaGreatG3
import Derived.Test.YtoamkpgaaanafaaGreatG37
import Derived.Test.YtoamkpgaaanafaaGreatG41
import Derived.Test.YtoamkpgaaanafaaGreatG6
import Derived.Test.YtoamkpgaaanafaaGreatG7
import Derived.Test.YtoamkpgaaanafaaGreatG8
import Derived.Test.YtoamkpgaaanafaaGreatG9
import Derived.Test.YtoamkpgaaanafaaGreatI1
import Derived.Test.YtoamkpgaaanafaaGreatI3
namespace Go.Proofs.YtoamkpgaaanafaaGreat
set_option linter.unusedSimpArgs false
set_option linter.unusedVariables false
set_option linter.unnecessarySimpa false
section
open Go.RowKit
mutual
/-- Conditions whose words are asked of attributes that are words. -/
def okK (s:PSchema):PPred→Prop
 | .mk op nm n m w subs=>(op=7→(s.defs.getD (findI s.defs nm).toNat default).kind=2)∧okKL s subs
def okKL (s:PSchema):List PPred→Prop
 | []=>True
 |p :: l=>okK s p∧okKL s l
end
theorem fieldB_more {d:PDef} {f:PField} {count:Int} (h:fieldB d f count=true) (h0:0 < f.has):f.lo≤f.hi∧(d.kind≠1→0 < f.words.length):=by
 unfold fieldB at h
 split at h
 ·cases h
 ·split at h
  ·rename_i hk
   simp only [Bool.and_eq_true,decide_eq_true_eq,withinB] at h
   exact ⟨h.1.2,fun hk2=>absurd hk.2 hk2⟩
  ·split at h
   ·cases h
   ·rename_i h3
    simp only [not_or,Classical.not_not] at h3
    obtain ⟨l1,l2,l3⟩:=h3
    refine ⟨by omega,fun _=>?_⟩
    rw [decide_eq_true h0] at l3
    simpa using l3.symm
structure CanLe (x y:PTruth):Prop where
 yes:x.yes=true→y.yes=true
 no:x.no=true→y.no=true
 one:x.yes=true∨x.no=true
end
section
open Go.RowKit
variable {s:PSchema} {a b:PSum} {n:Int}
mutual
theorem can_away (h:WithZ s a b) (ha:SumV s n a):∀p:PPred,okP s p→okK s p→CanLe (canZ s a p) (canZ s b p)
 | .mk op nm x y w subs,hp,hk=>by
  rw [okP] at hp
  rw [okK] at hk
  obtain ⟨h1,h2,h3,h4,h5⟩:=hp
  obtain ⟨k1,k2⟩:=hk
  have hL:=can_awayL h ha subs h5 k2
  have e:∀(z:PSum) (f:PTruth→Bool),(canL s z subs).any f=subs.any fun q=>f (canZ s z q):=fun z f=>by rw [canL_eq,List.any_map];rfl
  have hF:5≤op→∃k,k < s.defs.length∧(findI s.defs nm).toNat=k:=fun h=>by
   obtain ⟨d,hd⟩:=findI_get (h3 h)
   exact ⟨_,(List.getElem?_eq_some_iff.1 hd).1,rfl⟩
  rw [canZ,canZ]
  rcases (show op=1∨op=2∨op=3∨op=4∨op=5∨op=6∨op=7 by omega) with rfl|rfl|rfl|rfl|rfl|rfl|rfl
  ·rw [if_pos rfl,if_pos rfl]
   exact ⟨id,id, .inl rfl⟩
  ·rw [if_neg (by decide),if_pos rfl,if_neg (by decide),if_pos rfl,e,e,e,e]
   refine ⟨fun g=>?_,fun g=>?_,?_⟩
   ·simp only [Bool.not_eq_true',List.any_eq_false,Bool.not_eq_true,Bool.not_eq_false'] at g ⊢
    intro q hq
    have:=(hL q hq).yes
    have:=g q hq
    simp_all
   ·simp only [List.any_eq_true] at g ⊢
    obtain ⟨q,hq,g⟩:=g
    exact ⟨q,hq,(hL q hq).no g⟩
   ·rcases hn:subs.any (fun q=>(canZ s a q).no) with _|_
    ·left
     simp only [List.any_eq_false] at hn
     simp only [Bool.not_eq_true',List.any_eq_false]
     intro q hq
     have g1:=(hL q hq).one
     have g2:=hn q hq
     simp_all
    ·exact .inr rfl
  ·rw [if_neg (by decide),if_neg (by decide),if_pos rfl,if_neg (by decide),if_neg (by decide),if_pos rfl,e,e,e,e]
   refine ⟨fun g=>?_,fun g=>?_,?_⟩
   ·simp only [List.any_eq_true] at g ⊢
    obtain ⟨q,hq,g⟩:=g
    exact ⟨q,hq,(hL q hq).yes g⟩
   ·simp only [Bool.not_eq_true',List.any_eq_false,Bool.not_eq_true,Bool.not_eq_false'] at g ⊢
    intro q hq
    have:=(hL q hq).no
    have:=g q hq
    simp_all
   ·rcases hn:subs.any (fun q=>(canZ s a q).yes) with _|_
    ·right
     simp only [List.any_eq_false] at hn
     simp only [Bool.not_eq_true',List.any_eq_false]
     intro q hq
     have g1:=(hL q hq).one
     have g2:=hn q hq
     simp_all
    ·exact .inl rfl
  ·have h0:=h2 rfl
   have e0:∀z:PSum,(canL s z subs).getD 0 default=canZ s z (subs.getD 0 default):=fun z=>by
    rw [canL_eq];simp [List.getD_eq_getElem?_getD,h0]
   rw [if_neg (by decide),if_neg (by decide),if_neg (by decide),if_pos rfl,if_neg (by decide),if_neg (by decide),if_neg (by decide),if_pos rfl,e0,e0]
   have g:=hL _ (getD_mem h0)
   exact ⟨g.no,g.yes,g.one.symm⟩
  ·obtain ⟨k,hk,ek⟩:=hF (by decide)
   obtain ⟨a1,a2,-⟩:=badF_iff.1 (h.fld k hk)
   have a3:=ha.count
   rw [if_neg (by decide),if_neg (by decide),if_neg (by decide),if_neg (by decide),if_pos rfl,if_neg (by decide),if_neg (by decide),if_neg (by decide),if_neg (by decide),if_pos rfl]
   simp only [fieldAt,ek]
   refine ⟨fun g=>?_,fun g=>?_,?_⟩
   ·simp only [decide_eq_true_eq] at g ⊢; omega
   ·simp only [decide_eq_true_eq] at g ⊢; omega
   ·simp only [decide_eq_true_eq];omega
  ·obtain ⟨k,hk,ek⟩:=hF (by decide)
   obtain ⟨a1,a2,a4⟩:=badF_iff.1 (h.fld k hk)
   have a3:=ha.count
   have hb:=ha.field k hk
   obtain ⟨o1,o2,-⟩:=fieldB_ok hb
   have o3:=o1.has
   have o4:=fieldB_more hb
   rw [if_neg (show ¬(6:Int)=1 by decide),if_neg (show ¬(6:Int)=2 by decide),if_neg (show ¬(6:Int)=3 by decide),if_neg (show ¬(6:Int)=4 by decide),if_neg (show ¬(6:Int)=5 by decide),if_pos rfl,if_neg (show ¬(6:Int)=1 by decide),if_neg (show ¬(6:Int)=2 by decide),if_neg (show ¬(6:Int)=3 by decide),if_neg (show ¬(6:Int)=4 by decide),if_neg (show ¬(6:Int)=5 by decide),if_pos rfl]
   simp only [fieldAt,ek]
   by_cases q1:(a.fields.getD k default).has=0
   ·rw [if_pos q1]
    refine ⟨fun g=>(by cases g),fun _=>?_, .inr rfl⟩
    split
    ·rfl
    ·simp only [Bool.or_eq_true,decide_eq_true_eq]
     left;omega
   ·have q2:0 < (a.fields.getD k default).has:=by omega
    obtain ⟨c1,c2,-⟩:=a4 q2
    have o5:=(o4 q2).1
    rw [if_neg q1,if_neg (by omega)]
    refine ⟨fun g=>?_,fun g=>?_,?_⟩
    ·simp only [decide_eq_true_eq] at g ⊢; omega
    ·simp only [Bool.or_eq_true,decide_eq_true_eq] at g ⊢; omega
    ·simp only [Bool.or_eq_true,decide_eq_true_eq];omega
  ·obtain ⟨k,hk,ek⟩:=hF (by decide)
   obtain ⟨a1,a2,a4⟩:=badF_iff.1 (h.fld k hk)
   have a3:=ha.count
   have hb:=ha.field k hk
   obtain ⟨o1,o2,-⟩:=fieldB_ok hb
   have o3:=o1.has
   have o4:=fieldB_more hb
   have kd:=k1 rfl
   rw [ek] at kd
   rw [if_neg (show ¬(7:Int)=1 by decide),if_neg (show ¬(7:Int)=2 by decide),if_neg (show ¬(7:Int)=3 by decide),if_neg (show ¬(7:Int)=4 by decide),if_neg (show ¬(7:Int)=5 by decide),if_neg (show ¬(7:Int)=6 by decide),if_neg (show ¬(7:Int)=1 by decide),if_neg (show ¬(7:Int)=2 by decide),if_neg (show ¬(7:Int)=3 by decide),if_neg (show ¬(7:Int)=4 by decide),if_neg (show ¬(7:Int)=5 by decide),if_neg (show ¬(7:Int)=6 by decide)]
   simp only [fieldAt,ek]
   by_cases q1:(a.fields.getD k default).has=0
   ·obtain ⟨-,-,w0⟩:=o1.none q1
    refine ⟨fun g=>?_,fun _=>?_,?_⟩
    ·rw [w0] at g;cases g
    ·simp only [Bool.or_eq_true,decide_eq_true_eq];left;omega
    ·right;simp only [Bool.or_eq_true,decide_eq_true_eq];left;omega
   ·have q2:0 < (a.fields.getD k default).has:=by omega
    obtain ⟨c1,c2,c3⟩:=a4 q2
    have o5:=(o4 q2).2 (by omega)
    refine ⟨fun g=>c3 _ (hasB_iff.1 g),fun g=>?_,?_⟩
    ·simp only [Bool.or_eq_true,decide_eq_true_eq,List.any_eq_true] at g ⊢
     rcases g with g|⟨v,hv,g⟩
     ·left;omega
     ·exact .inr ⟨v,hasB_iff.1 (c3 v hv),g⟩
    ·by_cases q3:hasB (a.fields.getD k default).words w=true
     ·exact .inl q3
     ·right
      simp only [Bool.or_eq_true,decide_eq_true_eq,List.any_eq_true]
      right
      refine ⟨_,getD_mem o5,?_⟩
      cases e4:eqB ((a.fields.getD k default).words.getD 0 default) w with
      |false=>rfl
      |true=>exact absurd (List.any_eq_true.2 ⟨_,getD_mem o5,e4⟩) q3
theorem can_awayL (h:WithZ s a b) (ha:SumV s n a):∀l:List PPred,okL s l→okKL s l→∀q∈l,CanLe (canZ s a q) (canZ s b q)
 | [],_,_,q,hq=>by simp at hq
 |p :: l,hp,hk,q,hq=>by
  rw [okL] at hp
  rw [okKL] at hk
  rcases List.mem_cons.1 hq with h1|hq
  ·rw [h1];exact can_away h ha p hp.1 hk.1
  ·exact can_awayL h ha l hp.2 hk.2 q hq
end
end
section
open Go.RowKit
mutual
/-- antiquaryref17.Parts. -/
def partsR:PPred→List PPred
 | .mk op nm n m w subs=>(partsG subs [.mk op nm n m w subs]).take 1000
def partsG:List PPred→List PPred→List PPred
 | [],out=>out
 |q :: l,out=>if out.length < 1000 then partsG l (out ++ partsR q) else out
end
theorem partsR_eq (p:PPred):partsR p=(partsG p.subs [p]).take 1000:=by
 cases p with
 |mk op nm n m w subs=>rw [partsR];rfl
theorem partsR_len (p:PPred):(partsR p).length≤1000:=by
 rw [partsR_eq,List.length_take];omega
theorem partsG_stop:∀(l out:List PPred),1000≤out.length→partsG l out=out
 | [],out,_=>by rw [partsG]
 |q :: l,out,h=>by rw [partsG,if_neg (by omega)]
theorem partsG_app:∀(l k out:List PPred),partsG (l ++ k) out=partsG k (partsG l out)
 | [],k,out=>by rw [List.nil_append,partsG]
 |q :: l,k,out=>by
  rw [List.cons_append,partsG,partsG]
  split
  ·exact partsG_app l k _
  ·rw [partsG_stop _ _ (by omega)]
theorem partsG_one (q:PPred) (out:List PPred):partsG [q] out=if out.length < 1000 then out ++ partsR q else out:=by
 rw [partsG]
 split
 ·rw [partsG]
 ·rfl
theorem partsG_len:∀(l out:List PPred),out.length≤2000→(partsG l out).length≤2000
 | [],out,h=>by rw [partsG];exact h
 |q :: l,out,h=>by
  rw [partsG]
  split
  ·refine partsG_len l _ ?_
   have:=partsR_len q
   rw [List.length_append];omega
  ·exact h
theorem partsG_sub:∀(l out:List PPred),∀x∈out,x∈partsG l out
 | [],out,x,h=>by rw [partsG];exact h
 |q :: l,out,x,h=>by
  rw [partsG]
  split
  ·exact partsG_sub l _ x (by simp [h])
  ·exact h
theorem partsG_ge:∀(l out:List PPred),out.length≤(partsG l out).length
 | [],out=>by rw [partsG];exact Nat.le_refl _
 |q :: l,out=>by
  rw [partsG]
  split
  ·have:=partsG_ge l (out ++ partsR q)
   rw [List.length_append] at this;omega
  ·exact Nat.le_refl _
theorem partsR_self (p:PPred):p∈partsR p:=by
 rw [partsR_eq]
 have h:=partsG_ge p.subs [p]
 have:∀(l:List PPred) (out:List PPred) (x:PPred) (r:List PPred),out=x :: r→∃r',partsG l out=x :: r':=fun l=>by
  induction l with
  |nil=>intro out x r h;exact ⟨r,by rw [partsG,h]⟩
  |cons q l ih=>
   intro out x r h
   rw [partsG]
   split
   ·exact ih _ x (r ++ partsR q) (by rw [h];rfl)
   ·exact ⟨r,h⟩
 obtain ⟨r',e⟩:=this p.subs [p] p [] rfl
 rw [e]
 simp
theorem partsG_all:∀(l out:List PPred),(partsG l out).length < 1000→out.length+l.length≤(partsG l out).length∧∀q∈l,(partsR q).length≤(partsG l out).length∧∀x∈partsR q,x∈partsG l out
 | [],out,h=>by rw [partsG] at *; exact ⟨by simp,by simp⟩
 |q :: l,out,h=>by
  have hlt:out.length < 1000:=by
   rcases Nat.lt_or_ge out.length 1000 with h5|h5
   ·exact h5
   ·rw [partsG_stop _ _ h5] at h;omega
  rw [partsG,if_pos hlt] at h ⊢
  obtain ⟨i1,i2⟩:=partsG_all l _ h
  have g:=partsG_ge l (out ++ partsR q)
  have hq:0 < (partsR q).length:=List.length_pos_of_mem (partsR_self q)
  rw [List.length_append] at i1 g
  refine ⟨by rw [List.length_cons];omega,fun r hr=>?_⟩
  rcases List.mem_cons.1 hr with rfl|hr
  ·exact ⟨by omega,fun x hx=>partsG_sub l _ x (by simp [hx])⟩
  ·exact i2 r hr
def formB (p:PPred):Bool:=
 if (p.op < 5∧0 < p.name.size)∨(p.op≠6∧(p.n≠0∨p.m≠0))∨(p.op≠7∧0 < p.s.size) then false
 else if p.m < p.n then false
 else if p.op=2∨p.op=3 then decide (0 < p.subs.length)
 else if p.op=4 then decide (p.subs.length=1) else decide (p.subs.length=0)
def chk1 (s:PSchema) (p:PPred):Int:=
 if p.op < 1∨7 < p.op then 1
 else if formB p=false then 3
 else if p.op < 5 then 0
 else if findI s.defs p.name < 0 then 5
 else if (p.op=6∧(s.defs.getD (findI s.defs p.name).toNat default).kind≠1)∨(p.op=7∧(s.defs.getD (findI s.defs p.name).toNat default).kind≠2) then 130 else 0
def checkP (s:PSchema) (p:PPred):Int:=
 if 64 < (partsR p).length then 2 else ((partsR p).find? fun x=>decide (chk1 s x≠0)).elim 0 (chk1 s)
theorem checkP_ok {s:PSchema} {p:PPred} (h:checkP s p=0):(partsR p).length≤64∧∀x∈partsR p,chk1 s x=0:=by
 unfold checkP at h
 split at h
 ·cases h
 ·rename_i h1
  refine ⟨by omega,fun x hx=>?_⟩
  cases e:(partsR p).find? fun x=>decide (chk1 s x≠0) with
  |none=>
   have:=List.find?_eq_none.1 e x hx
   simpa using this
  |some y=>
   rw [e] at h
   have:=List.find?_some e
   simp only [Option.elim] at h
   simp [h] at this
theorem chk1_ok {s:PSchema} {p:PPred} (h:chk1 s p=0):(1≤p.op∧p.op≤7)∧(p.op=4→0 < p.subs.length)∧(5≤p.op→0≤findI s.defs p.name)∧(p.op=7→(s.defs.getD (findI s.defs p.name).toNat default).kind=2):=by
 unfold chk1 at h
 split at h
 ·cases h
 ·rename_i h1
  split at h
  ·cases h
  ·rename_i h2
   have h3:p.op=4→0 < p.subs.length:=fun h4=>by
    rw [Bool.not_eq_false] at h2
    unfold formB at h2
    (repeat' split at h2)<;>first|(cases h2;done)|omega|(have:=of_decide_eq_true h2;omega)
   split at h
   ·exact ⟨by omega,h3,fun _=>by omega,fun _=>by omega⟩
   ·split at h
    ·cases h
    ·split at h
     ·cases h
     ·rename_i h6
      refine ⟨by omega,h3,fun _=>by omega,fun h7=>?_⟩
      rcases Classical.em ((s.defs.getD (findI s.defs p.name).toNat default).kind=2) with hk|hk
      ·exact hk
      ·exact absurd (.inr ⟨h7,hk⟩) h6
mutual
theorem ok_parts {s:PSchema} : ∀p:PPred,(partsR p).length≤64→(∀x∈partsR p,chk1 s x=0)→okP s p∧okK s p
 | .mk op nm n m w subs,hl,hx=>by
  have h0:=chk1_ok (hx _ (partsR_self _))
  obtain ⟨h1,h2,h3,h4⟩:=h0
  rw [partsR] at hl hx
  have hg:(partsG subs [.mk op nm n m w subs]).length < 1000:=by rw [List.length_take] at hl;omega
  rw [List.take_of_length_le (by omega)] at hl hx
  obtain ⟨g1,g2⟩:=partsG_all subs _ hg
  have hL:=ok_partsL subs (fun q hq=>by have:=(g2 q hq).1;omega) (fun q hq x hxx=>hx x ((g2 q hq).2 x hxx))
  rw [okP,okK]
  simp only [List.length_cons,List.length_nil] at g1
  exact ⟨⟨h1,h2,h3,by omega,hL.1⟩,h4,hL.2⟩
theorem ok_partsL {s:PSchema} : ∀l:List PPred,(∀q∈l,(partsR q).length≤64)→(∀q∈l,∀x∈partsR q,chk1 s x=0)→okL s l∧okKL s l
 | [],_,_=>by rw [okL,okKL];exact ⟨trivial,trivial⟩
 |p :: l,h1,h2=>by
  have a:=ok_parts p (h1 p (by simp)) (h2 p (by simp))
  have b:=ok_partsL l (fun q hq=>h1 q (by simp [hq])) (fun q hq=>h2 q (by simp [hq]))
  rw [okL,okKL]
  exact ⟨⟨a.1,b.1⟩,a.2,b.2⟩
end
theorem check_ok {s:PSchema} {p:PPred} (h:checkP s p=0):okP s p∧okK s p:=by
 obtain ⟨h1,h2⟩:=checkP_ok h
 exact ok_parts p h1 h2
mutual
/-- antiquaryref17.Few. -/
def fewPB:PPred→Int→Bool
 | .mk op nm n m w subs,d=>if d < 1∨100 < (partsR (.mk op nm n m w subs)).length then false else fewPBL subs (d - 1)
def fewPBL:List PPred→Int→Bool
 | [],_=>true
 |p :: l,d=>fewPB p d && fewPBL l d
end
theorem fewPBL_eq:∀(l:List PPred) (d:Int),fewPBL l d=l.all fun q=>fewPB q d
 | [],d=>by rw [fewPBL];rfl
 |p :: l,d=>by rw [fewPBL,fewPBL_eq l d];rfl
mutual
/-- Conditions with lists that can be. -/
def lenP:PPred→Prop
 | .mk op nm n m w subs=>subs.length≤20000000000000∧lenPL subs
def lenPL:List PPred→Prop
 | []=>True
 |p :: l=>lenP p∧lenPL l
end
theorem lenPL_iff:∀{l:List PPred},lenPL l↔∀p∈l,lenP p
 | []=>by rw [lenPL];simp
 |p :: l=>by rw [lenPL,lenPL_iff (l:=l)];simp
end
end Go.Proofs.YtoamkpgaaanafaaGreat
