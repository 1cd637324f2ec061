/- Out of: Zp. -/
import Derived.Test.YtoamkpgaaanafaaGreatShelf
import Derived.Test.YtoamkpgaaanafaaGreatM22
namespace Go.Proofs.YtoamkpgaaanafaaGreat
set_option linter.unusedSimpArgs false
set_option linter.unusedVariables false
set_option linter.unnecessarySimpa false
section
open Go.RowKit
instance:Inhabited PDef:=⟨⟨ByteArray.empty,0,0,0,[]⟩⟩
structure PField where
 has:Int
 lo:Int
 hi:Int
 words:List ByteArray
 deriving Inhabited
def pfldL (f:PField):List PV := [pint f.has,pint f.lo,pint f.hi,pstrs f.words]
def pfld (f:PField):PV:=.agg (pfldL f)
def pflds (l:List PField):PV:=.sl l.length 4 (l.flatMap pfldL) none
theorem low_pfldL (f:PField):∀c∈pfldL f,Low c:=by
 intro c hc
 simp only [pfldL,List.mem_cons,List.not_mem_nil,or_false] at hc
 rcases hc with rfl|rfl|rfl|rfl
 ·exact .val _
 ·exact .val _
 ·exact .val _
 ·exact (low_pstrs _).2 trivial
theorem low_pfld (f:PField):Low (pfld f)↔True:=⟨fun _=>trivial,fun _=>.agg _ (low_pfldL f)⟩
theorem low_pflds (l:List PField):Low (pflds l)↔True:=by
 simp only [pflds,low_sl,iff_true]
 intro c hc
 obtain ⟨z,-,hz⟩:=List.mem_flatMap.1 hc
 exact low_pfldL z c hz
structure PSum where
 count:Int
 box:PBox
 shells:List PShell
 fromLo:Int
 fromHi:Int
 toHi:Int
 bornLo:Int
 bornHi:Int
 fields:List PField
 deriving Inhabited
def psumL (z:PSum):List PV := [pint z.count,pints z.box.lo,pints z.box.hi,pshells z.shells,pint z.fromLo,pint z.fromHi,pint z.toHi,pint z.bornLo,pint z.bornHi,pflds z.fields]
def psum (z:PSum):PV:=.agg (psumL z)
theorem low_psumL (z:PSum):∀c∈psumL z,Low c:=by
 intro c hc
 simp only [psumL,List.mem_cons,List.not_mem_nil,or_false] at hc
 rcases hc with rfl|rfl|rfl|rfl|rfl|rfl|rfl|rfl|rfl|rfl
 ·exact .val _
 ·exact (low_pints _).2 trivial
 ·exact (low_pints _).2 trivial
 ·exact (low_pshells _).2 trivial
 ·exact .val _
 ·exact .val _
 ·exact .val _
 ·exact .val _
 ·exact .val _
 ·exact (low_pflds _).2 trivial
theorem low_psum (z:PSum):Low (psum z)↔True:=⟨fun _=>trivial,fun _=>.agg _ (low_psumL z)⟩
theorem pc_containsS (l:List ByteArray) (s:ByteArray) (hl:l.length≤1000000000):PCalls Tryz.prog 73 [pstrs l,pstr s] (· = pbool (hasB l s)):=
 pcalls2 (by kernel_rfl) fun Φ μ w v u himm hr hr2=>by
  obtain ⟨rfl,-⟩:=hr2.val_inv
  exact (slicesContainsS v l s w (strs_of_rep himm hr) hl).mono (by
   rintro e w' ⟨rfl,hb⟩
   exact post_flat himm (.val _ rfl) rfl rfl (by first|exact hb|exact hb.below _|(subst hb;exact Below.refl _ _)))
def withinB (n lo hi:Int):Bool:=decide (lo≤n) && decide (n≤hi)
theorem pw_isWithin (n lo hi:Int):PCalls Tryz.prog 64 [pint n,pint lo,pint hi] (· = pbool (withinB n lo hi)):=by
 refine pcalls_of_pw typeTab_ok Tryz.func64 rfl (by kernel_rfl) (by simp [low_pint]) (by simp [pint,PV.ownB]) (by rw [Tryz.ntmps64];simp) ?_
 rw [Tryz.ntmps64,Tryz.results64]
 unfold withinB
 by_cases h1:lo≤n
 ·by_cases h2:n≤hi
  ·refine wk ?_
   exact retP rfl (by exact lw) (by simp [pbool,h1,h2])
  ·refine wk ?_
   exact retP rfl (by exact lw) (by simp [pbool,h2])
 ·refine wk ?_
  exact retP rfl (by exact lw) (by simp [pbool,h1])
def wordOK (d:PDef) (w:List ByteArray) (i:Nat):Bool:=hasB d.words (w.getD i default) && (decide (i=0) || !leqB (w.getD i default) (w.getD (i - 1) default))
def fieldB (d:PDef) (f:PField) (count:Int):Bool:=
 if withinB f.has 0 count=false then false
 else if 0 < f.has∧d.kind=1 then withinB f.lo d.lo f.hi && (decide (f.hi≤d.hi) && decide (f.words.length=0))
 else if f.lo≠0∨f.hi≠0∨decide (0 < f.has)≠decide (0 < f.words.length) then false
 else (List.range f.words.length).all (wordOK d f.words)
theorem low_pdef (d:PDef):Low (.agg (pdefL d)):=by simp [low_agg,pdefL,low_pint,low_pstr,low_pstrs]
set_option maxRecDepth 10000 in
set_option maxHeartbeats 2000000 in
theorem pw_isField (d:PDef) (f:PField) (count:Int) (h1:d.words.length≤1000000) (h2:f.words.length≤1000000):PCalls Tryz.prog 67 [.agg (pdefL d),pfld f,pint count] (· = pbool (fieldB d f count)):=by
 have hw:=pw_isWithin f.has 0 count
 have hd1:=low_pdefL d
 have hf1:=low_pfldL f
 refine pcalls_of_pw typeTab_ok Tryz.func67 rfl (by kernel_rfl) (by simp [low_pint,low_pfld,low_pdef]) (by simp [pfld,pfldL,pdefL,pint,PV.ownB]) (by rw [Tryz.ntmps67];simp) ?_
 rw [Tryz.ntmps67,Tryz.results67]
 unfold fieldB
 unfold pfld pfldL pdefL at *
 cases e1:withinB f.has 0 count with
 |false=>
  rw [e1] at hw
  refine wk ?_
  exact retP rfl (by exact lw) rfl
 |true=>
  rw [e1] at hw
  rw [if_neg (by simp)]
  by_cases e2:0 < f.has∧d.kind=1
  ·obtain ⟨e3,e4⟩:=e2
   have hw2:=pw_isWithin f.lo d.lo f.hi
   rw [if_pos ⟨e3,e4⟩]
   cases e5:withinB f.lo d.lo f.hi with
   |false=>
    rw [e5] at hw2
    refine wk ?_
    exact retP rfl (by exact lw) rfl
   |true=>
    rw [e5] at hw2
    by_cases e6:f.hi≤d.hi
    ·by_cases e7:f.words.length=0
     ·refine wk ?_
      exact retP rfl (by exact lw) (by simp [pbool,e6,e7])
     ·refine wk ?_
      exact retP rfl (by exact lw) (by simp only [pbool,decide_eq_false e7,Bool.and_false])
    ·refine wk ?_
     exact retP rfl (by exact lw) (by simp [pbool,e6])
  ·rw [if_neg e2]
   have hall:∀k,wordOK d f.words k=false→k < f.words.length→(List.range f.words.length).all (wordOK d f.words)=false:=fun k h hk=>by
    rw [List.all_eq_false];exact ⟨k,by simp [hk],by rw [h];decide⟩
   have e2' : (0 < f.has∧¬d.kind=1)∨¬0 < f.has:=by omega
   rcases e2' with ⟨e3,e4⟩|e3
   all_goals
    by_cases e5:f.lo=0
    ·by_cases e6:f.hi=0
     ·by_cases e7:decide (0 < f.has)=decide (0 < f.words.length)
      ·rw [if_neg (by simp [e5,e6,e7])]
       have e8:(0 < f.has∧0 < f.words.length)∨(¬0 < f.has∧¬0 < f.words.length):=by
        by_cases q1:0 < f.has<;>by_cases q2:0 < f.words.length<;>simp [q1,q2] at e7 ⊢
       rcases e8 with ⟨q1,q2⟩|⟨q1,q2⟩
       ·first
        |omega
        |refine wk ?_
         refine PW.loop (fun k:Nat=>(((((bot.setb 0 (pdefL d)).setb 1 (pfldL f)).put 3 (.ptr 0 0)).put 4 (.ptr 1 0)).put 64 (pstrs f.words) |>.put 65 (pint f.words.length)).put 66 (pint k)) (fun k=>k≤f.words.length∧∀j,j < k→wordOK d f.words j=true) (fun k=>f.words.length - k) 0 ⟨by omega,by simp⟩ ?_ ?_
         ·exact sb
         ·rintro k ⟨hk,ha⟩
          clear hw
          by_cases hlt:k < f.words.length
          ·have hc:=pc_containsS d.words (f.words.getD k default) (by omega)
           cases c1:hasB d.words (f.words.getD k default) with
           |false=>
            rw [c1] at hc
            refine wk ?_
            refine retP rfl (by exact lw) ?_
            rw [hall k (by simp only [wordOK,c1,Bool.false_and]) hlt];rfl
           |true=>
            rw [c1] at hc
            by_cases hk0:k=0
            ·refine wk ?_
             have hI:k+1≤f.words.length∧∀j,j < k+1→wordOK d f.words j=true:=⟨by omega,fun j hj=>by
              obtain rfl:j=k:=by omega
              simp only [wordOK,c1,decide_eq_true hk0,Bool.true_or,Bool.and_self]⟩
             refine loopP (k+1) ?_ ?_ ?_
             ·exact hI
             ·omega
             ·exact sb
            ·have ek:((k:Int) - 1).toNat=k - 1:=by omega
             cases c2:leqB (f.words.getD k default) (f.words.getD (((k:Int) - 1).toNat) default) with
             |true=>
              refine wk ?_
              refine retP rfl (by exact lw) ?_
              rw [ek] at c2
              rw [hall k (by simp only [wordOK,c1,c2,decide_eq_false hk0];rfl) hlt];rfl
             |false=>
              refine wk ?_
              rw [ek] at c2
              have hI:k+1≤f.words.length∧∀j,j < k+1→wordOK d f.words j=true:=⟨by omega,fun j hj=>by
               rcases Nat.lt_succ_iff_lt_or_eq.1 hj with h|h
               ·exact ha j h
               ·rw [h];simp only [wordOK,c1,c2,Bool.not_false,Bool.or_true,Bool.and_self]⟩
              refine loopP (k+1) ?_ ?_ ?_
              ·exact hI
              ·omega
              ·exact sb
          ·refine wk ?_
           refine retP rfl (by exact lw) ?_
           have:(List.range f.words.length).all (wordOK d f.words)=true:=by
            rw [List.all_eq_true];intro j hj;exact ha j (by simp at hj;omega)
           rw [this];rfl
       ·first
        |omega
        |refine wk ?_
         refine PW.loop (fun k:Nat=>(((((bot.setb 0 (pdefL d)).setb 1 (pfldL f)).put 3 (.ptr 0 0)).put 4 (.ptr 1 0)).put 64 (pstrs f.words) |>.put 65 (pint f.words.length)).put 66 (pint k)) (fun k=>k≤f.words.length∧∀j,j < k→wordOK d f.words j=true) (fun k=>f.words.length - k) 0 ⟨by omega,by simp⟩ ?_ ?_
         ·exact sb
         ·rintro k ⟨hk,ha⟩
          clear hw
          have hlt:¬k < f.words.length:=by omega
          ·refine wk ?_
           refine retP rfl (by exact lw) ?_
           have:(List.range f.words.length).all (wordOK d f.words)=true:=by
            rw [List.all_eq_true];intro j hj;exact ha j (by simp at hj;omega)
           rw [this];rfl
      ·rw [if_pos (.inr (.inr e7))]
       have e8:(0 < f.has∧¬0 < f.words.length)∨(¬0 < f.has∧0 < f.words.length):=by
        by_cases q1:0 < f.has<;>by_cases q2:0 < f.words.length<;>simp [q1,q2] at e7 ⊢
       rcases e8 with ⟨q1,q2⟩|⟨q1,q2⟩
       all_goals
        first
        |omega
        |refine wk ?_
         exact retP rfl (by exact lw) rfl
     ·rw [if_pos (.inr (.inl e6))]
      refine wk ?_
      exact retP rfl (by exact lw) rfl
    ·rw [if_pos (.inl e5)]
     refine wk ?_
     exact retP rfl (by exact lw) rfl
end
end Go.Proofs.YtoamkpgaaanafaaGreat
