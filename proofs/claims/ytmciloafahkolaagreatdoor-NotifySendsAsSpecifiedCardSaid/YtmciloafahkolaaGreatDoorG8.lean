/- Out of: Dj, La, Jd, Jg, Jh, Ji, Jk, Lf. -/
import Derived.Test.YtmciloafahkolaaGreatDoorG5
namespace Go.Proofs.YtmciloafahkolaaGreatDoor
set_option maxRecDepth 100000
set_option maxHeartbeats 40000000
set_option linter.unusedSimpArgs false
set_option linter.unusedVariables false
set_option linter.unnecessarySimpa false
section
open Go.RowKit
def Xe5 (keep:List Int) (n:Nat):Int:=if keep = [] then 0 else keep.getD (n % keep.length) default
def X0o (D:DM) (keep:List Int):Nat→List Zo
 |0=>D.cells
 |n+1=>(X0o D keep n).set (D.keys.getD n default).toNat (X6k (D.cell (D.keys.getD n default)) (D.get (D.keys.getD n default)) (Xe5 keep n))
def DM.crash (D:DM) (keep:List Int):DM:=⟨X0o D keep D.keys.length,[],0,0,-1,false⟩
theorem X23 (D:DM) (keep:List Int):∀n,(X0o D keep n).length=D.cells.length
 |0=>rfl
 |n+1=>by rw [X0o,List.length_set];exact X23 D keep n
theorem Xqn {α:Type} {f:α→List PV} (h:∀x,(f x).map PV.bare=f x) (l:List α):(l.flatMap f).map PV.bare=l.flatMap f:=by
 rw [List.map_flatMap];congr 1;funext x;exact h x
theorem Y45 (D:DM):(dC D).map PV.bare=dC D:=Xqn Y7 _
theorem Xez (D:DM):(dC D).length=D.cells.length * 65:=Kk Y3 _
theorem Xp4 {b:Nat→Option (List PV)} {id:Nat} (D:DM) (h:b id=some (dC D)):X36 b 65 (.msl id 0 D.cells.length 65)=some (D.cells.length,dC D):=by
 show (if (65:Nat)=65 then _ else none)=_
 rw [if_pos rfl,h]
 show (if 0+D.cells.length * 65≤(dC D).length then some (D.cells.length,(((dC D).drop 0).take (D.cells.length * 65)).map PV.bare) else none)=_
 rw [if_pos (by rw [Xez];omega),List.drop_zero,H_ (by rw [Xez];exact Nat.le_refl _),Y45]
theorem Xzi (D:DM):D.keys.length=D.op.length:=by unfold DM.keys Xz8;rw [X08,List.length_map]
theorem Xn9 {D:DM} {i:Int} : i∈D.keys↔i∈D.op.map (·.2.1):=by unfold DM.keys Xz8;exact (X9s _).mem_iff
theorem Xu4 {D:DM} (hop:opOK D.cells.length D.op) {n:Nat} (hn:n < D.keys.length):0≤D.keys.getD n default∧D.keys.getD n default < D.cells.length∧Zz (D.keys.getD n default) D.op 0≠none∧0 < (D.get (D.keys.getD n default)).length∧(D.get (D.keys.getD n default)).length≤1000000000:=by
 have hm:D.keys.getD n default∈D.keys:=by
  rw [G_,E_ hn];exact List.getElem_mem hn
 generalize D.keys.getD n default=i at *
 obtain ⟨e,he,rfl⟩:=List.mem_map.1 (Xn9.1 hm)
 obtain ⟨q1,q2,q3,q4⟩:=hop.2 e he
 obtain ⟨j,hj⟩:=List.getElem?_of_mem he
 have hix:Zz e.2.1 D.op 0=some j:=by rw [Xcn hop.1 hj,Nat.zero_add]
 have hget:D.get e.2.1=e.2.2:=by
  unfold DM.get;rw [hix]
  simp only [G_,hj,Option.getD_some]
 exact ⟨q1,q2,by rw [hix];simp,by rw [hget];exact q3,by rw [hget];exact q4⟩
def crG (d c m d2 c2 m2:Nat) (D D2:DM):List (Nat×List PV) := [(d,dB c m D),(c,dC D),(d2,dB c2 m2 D2),(c2,dC D2)]
def crM (m m2:Nat) (D D2:DM):List (Nat×PMap) := [(m,dM D),(m2,dM D2)]
theorem Xr4 (D:DM) (keep:List Int) (hsz:1≤D.cells.length∧D.cells.length≤65536) (hop:opOK D.cells.length D.op) (hol:D.op.length≤1000000000) (hk:keep.length≤1000000000000000) (hki:∀x∈keep,-9223372036854775808≤x∧x≤9223372036854775807) :
  Xe Tryz.prog 30 [.ptr 1000001 0,Kd keep] (dG 1000001 1000002 1000003 D) (dMs 1000003 D) (.ptr 900005 0) (crG 1000001 1000002 1000003 900005 900006 900007 D (D.crash keep)) (crM 1000003 900007 D (D.crash keep)):=by
 have c1:=Xm D
 have c2:=Xi D
 have c3:=Xm (D.crash keep)
 have c4:=Xi (D.crash keep)
 have hsec:=Xp6 D hol 1000001 1000002 1000003 D_
 have hnew:=Xik D.cells.length O_ 900005 900006 900007 D_
 rw [Int.toNat_natCast] at hnew
 refine Xn X6 Tryz.func30 rfl rfl (by simp [PV.ownB,Kd]) N_ (by simp [X0,dG,dMs]) (by simp [X0,dG,dMs]) ⟨X9 (.ptr _ _ (by first|(simp [X0];done)|(simp [X0,dG,dMs];done)|(simp [X0,dG,dMs,crG,crM];done)|(simp [X0,dG,dMs,jG];done))) (X9 (Low.lowI (by exact lw)) Y2),by exact li0,X8u c2 Vw, .ptr _ _ (by simp [X0,crG,crM]),Yt (Zi (by simp [X0,crG,crM]) (by simp [X0,crG,crM]) _) (Yt (X1h c1) (Yt (Zi (by simp [X0,crG,crM]) (by simp [X0,crG,crM]) _) (Yt (X1h c3) X2i))),X8u c2 (X8u c4 Vw),by simp [crG,dG],by simp [crM,dMs]⟩ ?_
 have hnl:(newD D.cells.length).cells.length=D.cells.length:=by simp [newD]
 have hnB:dB 900006 900007 (newD D.cells.length)=dB 900006 900007 (D.crash keep):=by simp [dB,newD,DM.crash,X23]
 have hnM:dM (newD D.cells.length)=dM (D.crash keep):=rfl
 have hnC:=Xez (newD D.cells.length)
 rw [hnl] at hnC
 have hlk:=Xzi D
 generalize hN:newD D.cells.length=N at *
 refine wk ?_
 refine X5.copy (n2:=D.cells.length) (cs:=dC D) (out:=dC D) rfl rfl rfl rfl rfl ?_ rfl rfl rfl ?_ ?_ ?_ ?_
 ·exact Xp4 D rfl
 ·show 0+min D.cells.length N.cells.length * 65≤(dC N).length
  rw [hnC,hnl,Nat.min_self];omega
 ·rw [Xez,hnl,Nat.min_self];exact Nat.le_refl _
 ·rw [hnl,Nat.min_self,←Xez D,List.take_length]
  unfold Y5
  rw [List.take_zero,List.nil_append,Nat.zero_add,List.drop_of_length_le (by rw [hnC,Xez];exact Nat.le_refl _),List.append_nil]
 have hG:dG 900005 900006 900007 N = [(900005,dB 900006 900007 (D.crash keep)),(900006,dC N)]:=by rw [←hnB];rfl
 have hM:dMs 900007 N = [(900007,dM (D.crash keep))]:=by rw [←hnM];rfl
 rw [hG,hM,hnl,Nat.min_self]
 refine wk ?_
 refine PW.loop (fun n:Nat=>(((((((((((bot.setb 1000001 (dB 1000002 1000003 D)).setb 1000002 (dC D)).setm 1000003 (dM D)).setb 900005 (dB 900006 900007 (D.crash keep))).setb 900006 ((X0o D keep n).flatMap Yu)).setm 900007 (dM (D.crash keep))).put 0 (.ptr 1000001 0)).put 1 (Kd keep)).put 5 (.ptr 900005 0)).put 25 (Kd D.keys)).put 26 (pint D.keys.length)).put 27 (pint n))
  (fun n=>n≤D.keys.length) (fun n=>D.keys.length - n) 0 (Nat.zero_le _) ?_ ?_
 ·exact sb
 ·intro n hn
  by_cases hlt:n < D.keys.length
  ·obtain ⟨k0,k1,k2,k3,k4⟩:=Xu4 hop hlt
   obtain ⟨b,hb⟩:=dget D (D.keys.getD n default) (ki:=⟨1,false, .int .i64,[.val (.int .i64 0)],[]⟩) (ei:=⟨1,false, .slice 116 64 64 (List.replicate 64 (.val (.int .u8 0))),[.nilsl],[]⟩) rfl rfl
   rw [if_neg k2] at hb
   have hst:(X0o D keep (n+1))=(X0o D keep n).set (D.keys.getD n default).toNat (X6k (D.cell (D.keys.getD n default)) (D.get (D.keys.getD n default)) (Xe5 keep n)):=rfl
   have hcl:=X23 D keep n
   have hcc:(D.crash keep).cells.length=D.cells.length:=X23 D keep _
   by_cases hk0:keep = []
   ·have hka:Xe5 keep n=0:=by rw [Xe5,if_pos hk0]
    have hf:=Xnd (D.cell (D.keys.getD n default)) (D.get (D.keys.getD n default)) 0 ⟨k3,k4⟩ O_
    rw [hka] at hst
    subst hk0
    refine wk ?_
    refine X5.stBR (v:=X6k (D.cell (D.keys.getD n default)) (D.get (D.keys.getD n default)) 0) rfl rfl rfl rfl rfl (by exact X57 _) rfl rfl rfl Y3 (by (first|omega|(dsimp only;omega))) rfl ?_
    refine wk ?_
    refine Y4 (n+1) O_ O_ ?_
    try dsimp only
    rw [hst]
    have hlc:∀p∈((X0o D [] n).set (D.keys.getD n default).toNat (X6k (D.cell (D.keys.getD n default)) (D.get (D.keys.getD n default)) 0)).flatMap Yu,Low p:=V9 Z0 _
    exact sb
   ·have hkl:0 < keep.length:=List.length_pos_iff.2 hk0
    have hka:Xe5 keep n=keep.getD (n % keep.length) default:=by rw [Xe5,if_neg hk0]
    have hkr : -9223372036854775808≤keep.getD (n % keep.length) default∧keep.getD (n % keep.length) default≤9223372036854775807:=by
     refine hki _ ?_
     rw [G_,E_ (Nat.mod_lt _ hkl)];exact List.getElem_mem _
    have hf:=Xnd (D.cell (D.keys.getD n default)) (D.get (D.keys.getD n default)) _ ⟨k3,k4⟩ hkr
    rw [hka] at hst
    have hmod:=Nat.mod_lt n hkl
    have hrem:((n:Int)).tmod keep.length=((n % keep.length:Nat):Int):=rfl
    generalize n % keep.length=q at *
    refine wk ?_
    refine X5.remY (z:=(q:Int)) rfl rfl rfl rfl rfl rfl O_ hrem ?_
    refine wk ?_
    refine X5.stBR (v:=X6k (D.cell (D.keys.getD n default)) (D.get (D.keys.getD n default)) (keep.getD q default)) rfl rfl rfl rfl rfl (by exact X57 _) rfl rfl rfl Y3 (by (first|omega|(dsimp only;omega))) rfl ?_
    refine wk ?_
    refine Y4 (n+1) O_ O_ ?_
    try dsimp only
    rw [hst]
    have hlc:∀p∈((X0o D keep n).set (D.keys.getD n default).toNat (X6k (D.cell (D.keys.getD n default)) (D.get (D.keys.getD n default)) (keep.getD q default))).flatMap Yu,Low p:=V9 Z0 _
    exact sb
  ·obtain rfl:n=D.keys.length:=O_
   refine wk ?_
   exact RetH.mk rfl (Weak.refl _) aw0 am0
theorem Xmu (D:DM) (keep:List Int) (hsz:1≤D.cells.length∧D.cells.length≤65536) (hop:opOK D.cells.length D.op) (hol:D.op.length≤1000000000) (hk:keep.length≤1000000000000000) (hki:∀x∈keep,-9223372036854775808≤x∧x≤9223372036854775807) (d c m d2 c2 m2:Nat) (hd:([d,c,m,d2,c2,m2]:List Nat).Nodup) :
  Xe Tryz.prog 30 [.ptr d 0,Kd keep] (dG d c m D) (dMs m D) (.ptr d2 0) (crG d c m d2 c2 m2 D (D.crash keep)) (crM m m2 D (D.crash keep)):=by
 refine (Xr4 D keep hsz hop hol hk hki).at [(1000001,d),(1000002,c),(1000003,m),(900005,d2),(900006,c2),(900007,m2)] (by simpa using hd) (by simp [X0,crG,crM]) (by simp [crG,dG]) (by simp [crM,dMs]) (.cons (.ptr _ _ (by first|(simp [X0];done)|(simp [X0,dG,dMs];done)|(simp [X0,dG,dMs,crG,crM];done)|(simp [X0,dG,dMs,jG];done))) (.cons (.low _ (by exact lw)) .nil)) ?_ ?_ ?_ ?_ (.cons _ _ _ _ _ (RenM.low (Xi _)) (.cons _ _ _ _ _ (RenM.low (Xi _)) .nil))<;>exact ren0
theorem gset {α:Type} {l:List α} {i j:Nat} {v d:α} (hi:i < l.length):(l.set i v).getD j d=if j=i then v else l.getD j d:=by
 simp only [G_,List.getElem?_set]
 by_cases h:i=j
 ·subst h;simp [hi]
 ·rw [if_neg h,if_neg (fun e=>h e.symm)]
theorem Xor {n k:Nat} {D:DM} (h:OkD n k D) (q:Int):Vg q D.op=if D.get q = [] then none else some (D.get q):=by
 rw [X1d]
 cases hf:Vg q D.op with
 |none=>simp
 |some l=>
  have hl:0 < l.length:=by
   rw [X62 D.op 0] at hf
   cases hj:Zz q D.op 0 with
   |none=>rw [hj] at hf;cases hf
   |some j=>
    rw [hj] at hf
    obtain ⟨-,h2,s',v,h3⟩:=X1f hj
    simp only [Nat.sub_zero,G_] at h3 hf
    rw [h3] at hf
    simp at hf
    subst hf
    exact (h.op.2 _ (List.mem_of_getElem? h3)).2.2.1
  have:l ≠ []:=List.length_pos_iff.1 hl
  simp [this]
theorem Xj3 {n k:Nat} {D:DM} (h:OkD n k D) (keep:List Int) {q:Nat} (hq:q < n):∀m,m≤D.keys.length→if (q:Int)∈D.keys.take m then ∃x,(X0o D keep m).getD q default=X6k (D.cell q) (D.get q) x else (X0o D keep m).getD q default=D.cell q
 |0,_=>by
  rw [List.take_zero,if_neg S_]
  show D.cells.getD q default=D.cells.getD (q:Int).toNat default
  rw [Int.toNat_natCast]
 |m+1,hm=>by
  have ih:=Xj3 h keep hq m O_
  have hop:opOK D.cells.length D.op:=by rw [h.len];exact h.op
  obtain ⟨k1,k2,-⟩:=Xu4 hop (n:=m) O_
  have ht:D.keys.take (m+1)=D.keys.take m ++ [D.keys.getD m default]:=by
   rw [List.take_add_one,G_,E_ O_];rfl
  rw [ht,X0o,gset (by rw [X23];omega)]
  generalize D.keys.getD m default=key at *
  by_cases e:q=key.toNat
  ·have e' : (q:Int)=key:=O_
   rw [if_pos e,if_pos (by rw [e'];simp),←e']
   exact ⟨_,rfl⟩
  ·have e' : (q:Int)≠key:=O_
   rw [if_neg e]
   by_cases c:(q:Int)∈D.keys.take m
   ·rw [if_pos c] at ih
    rw [if_pos (List.mem_append.2 (.inl c))]
    exact ih
   ·rw [if_neg c] at ih
    rw [if_neg (by simp only [List.mem_append,List.mem_singleton,not_or];exact ⟨c,e'⟩)]
    exact ih
theorem Xvl {n k:Nat} {D:DM} (h:OkD n k D) (q:Int):q∈D.keys↔D.get q ≠ []:=by
 rw [Xn9]
 have hf:=Xor h q
 constructor
 ·intro hm e
  obtain ⟨x,hx,rfl⟩:=List.mem_map.1 hm
  obtain ⟨j,hj⟩:=List.getElem?_of_mem hx
  rw [X7n h.op.1 hj,if_pos e] at hf
  cases hf
 ·intro hne
  by_cases c:q∈D.op.map (·.2.1)
  ·exact c
  ·rw [X2b c,if_neg hne] at hf
   cases hf
theorem Xf9 {n k:Nat} {D:DM} (h:OkD n k D) (keep:List Int) {q:Nat} (hq:q < n):if D.get q = [] then (D.crash keep).cell q=D.cell q else ∃x,(D.crash keep).cell q=X6k (D.cell q) (D.get q) x:=by
 have h1:=Xj3 h keep hq D.keys.length (Nat.le_refl _)
 rw [List.take_length] at h1
 have e:(D.crash keep).cell q=(X0o D keep D.keys.length).getD q default:=by
  show (X0o D keep D.keys.length).getD (q:Int).toNat default=_
  rw [Int.toNat_natCast]
 rw [e]
 by_cases c:D.get q = []
 ·rw [if_pos c]
  rw [if_neg (fun hm=>(Xvl h q).1 hm c)] at h1
  exact h1
 ·rw [if_neg c]
  rw [if_pos ((Xvl h q).2 c)] at h1
  exact h1
theorem X34 {n k:Nat} {D:DM} (h:OkD n k D) (keep:List Int):OkD n 0 (D.crash keep):=
 ⟨rfl,rfl,by show (X0o D keep _).length=n;rw [X23];exact h.len,⟨Int.le_refl _,Int.le_refl _⟩,⟨List.nodup_nil,by simp [DM.crash]⟩,by simp [DM.crash]⟩
theorem Xiv (D:DM) (keep:List Int) (q:Int):(D.crash keep).get q = []:=by rw [X1d];rfl
def DM.base (D:DM):DM:={ D with dead:=false,after := -1,steps:=0 }
theorem Xie {D E:DM} (h:D.base=E.base) (i:Int) (s:Sec):(addW D i s).base=(addW E i s).base:=by
 obtain ⟨c,o,k,a,b,d⟩:=D
 obtain ⟨c',o',k',a',b',d'⟩:=E
 simp only [DM.base,DM.mk.injEq,and_true] at h
 obtain ⟨rfl,rfl,rfl⟩:=h
 unfold addW
 simp only
 split<;>rfl
theorem Xw5 {D E:DM} (h:D.base=E.base) (q:Int):D.get q=E.get q:=by
 show D.base.get q=E.base.get q
 rw [h]
theorem Xvk {D E:DM} (h:D.base=E.base) (q:Int):D.cell q=E.cell q:=by
 show D.base.cell q=E.base.cell q
 rw [h]
theorem OkD.base {n k:Nat} {D:DM} (h:OkD n k D):OkD n k D.base:=⟨rfl,rfl,h.len,⟨Int.le_refl _,by simp [DM.base]⟩,h.op,h.room⟩
theorem Xbe (D:DM) (keep:List Int):∀n,X0o D.base keep n=X0o D keep n
 |0=>rfl
 |n+1=>by
  rw [X0o,X0o,Xbe D keep n];rfl
theorem X5s (D:DM) (keep:List Int):D.base.crash keep=D.crash keep:=by
 unfold DM.crash
 rw [Xbe];rfl
theorem X25 {D:DM} (h:D.dead=false) (q:Int):D.base.read q=D.read q:=by
 unfold DM.read
 have:D.base.check q=D.check q:=by unfold DM.check DM.base;rw [h]
 rw [this];rfl
theorem Zd {n k:Nat} {D:DM} (h:OkD n k D) (keep:List Int) {q:Int} (q0:0≤q) (q1:q < n) (hg:D.get q = []):(D.crash keep).read q=D.read q:=by
 obtain ⟨q,rfl⟩:∃z:Nat,q=z:=⟨q.toNat,O_⟩
 have hc:=Xf9 h keep (q:=q) O_
 rw [if_pos hg] at hc
 rw [(X34 h keep).read q0 q1,h.read q0 q1,Xiv,hg,hc]
theorem Xd9 {n k:Nat} {D:DM} (h:OkD n k D) (keep:List Int) {q:Int} (q0:0≤q) (q1:q < n) {g:Sec} (hg:D.get q = [g]):(D.crash keep).read q=(if (D.cell q).bad then (Ye,221) else ((D.cell q).s,0))∨(D.crash keep).read q=(Ye,221)∨∃s:Sec,(D.crash keep).read q=(s,0)∧s.1.take 32=g.1.take 32:=by
 obtain ⟨q,rfl⟩:∃z:Nat,q=z:=⟨q.toNat,O_⟩
 have hc:=Xf9 h keep (q:=q) O_
 rw [if_neg (by rw [hg];simp)] at hc
 obtain ⟨x,hx⟩:=hc
 rw [(X34 h keep).read q0 q1,Xiv,if_neg S_,hx,hg]
 have hr:0≤X1t [g] x∧X1t [g] x < 4:=by
  unfold X1t
  simp only [C_,List.length_nil]
  omega
 unfold X6k
 by_cases c0:X1t [g] x=0
 ·rw [if_pos c0];exact .inl rfl
 rw [if_neg c0]
 by_cases c1:X1t [g] x≤([g]:List Sec).length
 ·rw [if_pos c1]
  have e1:X1t [g] x=1:=by simp only [C_,List.length_nil] at c1;omega
  rw [e1]
  exact .inr (.inr ⟨g,rfl,rfl⟩)
 rw [if_neg c1]
 by_cases c2:X1t [g] x=([g]:List Sec).length+1
 ·rw [if_pos c2];exact .inr (.inl rfl)
 rw [if_neg c2]
 have e2:V6 [g]=g:=rfl
 rw [e2]
 by_cases c3:(X2n (D.cell q) [g]).1=g.1
 ·rw [if_pos c3];exact .inr (.inr ⟨g,rfl,rfl⟩)
 ·rw [if_neg c3]
  refine .inr (.inr ⟨mixS g _,rfl,?_⟩)
  show (g.1.take 32 ++ _).take 32=_
  rw [List.take_append_of_le_length (by rw [T_,g.2.1];decide),List.take_take];rfl
inductive DOp where
 |w (i:Int) (s:Sec)
 |sync
def DOp.inD (n:Nat):DOp→Prop
 | .w i _=>0≤i∧i < n
 | .sync=>0 < n
def DM.op1 (D:DM):DOp→Int×DM
 | .w i s=>D.write i s
 | .sync=>D.sync
def DM.run (D:DM):List DOp→Int×DM
 | []=>(0,D)
 |o :: os=>if (D.op1 o).1=0 then DM.run (D.op1 o).2 os else D.op1 o
theorem X6b (D:DM) (a b:List DOp):D.run (a ++ b)=if (D.run a).1=0 then (D.run a).2.run b else D.run a:=by
 induction a generalizing D with
 |nil=>rfl
 |cons o a ih=>
  rw [List.cons_append,DM.run,DM.run]
  by_cases h:(D.op1 o).1=0
  ·rw [if_pos h,if_pos h,ih]
  ·rw [if_neg h,if_neg h,if_neg h]
theorem Xky (D:DM) (o:DOp):D.run [o]=D.op1 o:=by
 rw [DM.run]
 by_cases h:(D.op1 o).1=0
 ·rw [if_pos h,DM.run,←h]
 ·rw [if_neg h]
def DM.nx (D:DM) (o:DOp):DM:=(D.op1 o).2.base
def DM.nxs (D:DM):List DOp→DM
 | []=>D
 |o :: os=>DM.nxs (D.nx o) os
theorem X0z (D:DM) (a b:List DOp):D.nxs (a ++ b)=(D.nxs a).nxs b:=by
 induction a generalizing D with
 |nil=>rfl
 |cons o a ih=>rw [List.cons_append,DM.nxs,DM.nxs,ih]
theorem OkD.op1 {n k:Nat} {D:DM} (h:OkD n k D) {o:DOp} (ho:o.inD n) (hk:k < 1000000000):(D.op1 o).1=0∧OkD n (k+1) (D.op1 o).2:=by
 cases o with
 |w i s=>obtain ⟨a,b,-⟩:=h.write ho.1 ho.2 hk s;exact ⟨a,b⟩
 |sync=>obtain ⟨a,b,-⟩:=h.sync_ok ho;exact ⟨a,b⟩
theorem OkD.nx {n k:Nat} {D:DM} (h:OkD n k D) {o:DOp} (ho:o.inD n) (hk:k < 1000000000):OkD n (k+1) (D.nx o):=(h.op1 ho hk).2.base
theorem OkD.run {n:Nat} : ∀(l:List DOp) {k:Nat} {D:DM},OkD n k D→(∀o∈l,o.inD n)→k+l.length≤1000000000→(D.run l).1=0∧OkD n (k+l.length) (D.run l).2
 | [],k,D,h,_,_=>⟨rfl,h⟩
 |o :: l,k,D,h,hi,hk=>by
  simp only [C_] at hk
  obtain ⟨a,b⟩:=h.op1 (hi o (List.mem_cons_self ..)) O_
  rw [DM.run,if_pos a,C_,show k+(l.length+1)=k+1+l.length by omega]
  exact OkD.run l b (fun q hq=>hi q (List.mem_cons_of_mem _ hq)) O_
structure GoD (n k:Nat) (D:DM):Prop where
 ok:OkD n k D.base
 steps:0≤D.steps∧D.steps≤k
 after : -1≤D.after∧D.after≤1000000
theorem GoD.mono {n k k' : Nat} {D:DM} (h:GoD n k D) (hk:k≤k'):GoD n k' D:=⟨h.ok.mono hk,by have:=h.steps;omega,h.after⟩
theorem GoD.len {n k:Nat} {D:DM} (h:GoD n k D):D.cells.length=n:=h.ok.len
theorem GoD.op {n k:Nat} {D:DM} (h:GoD n k D):opOK n D.op:=h.ok.op
theorem GoD.room {n k:Nat} {D:DM} (h:GoD n k D):∀e∈D.op,e.2.2.length≤k:=h.ok.room
theorem OkD.go {n k:Nat} {D:DM} (h:OkD n k D):GoD n k D:=⟨h.base,h.steps,by rw [h.after];omega⟩
structure Did (n k:Nat) (D B' : DM) (r:Int×DM):Prop where
 go:GoD n k r.2
 res:(r.1=0∧r.2.dead=D.dead∧r.2.base=B')∨(r.1=220∧r.2.dead=true∧r.2.base=D.base)
theorem GoD.op1 {n k:Nat} {D:DM} (h:GoD n k D) {o:DOp} (ho:o.inD n) (hk:k < 1000000000):Did n (k+1) D (D.base.nx o) (D.op1 o):=by
 have hs:=h.steps
 have ha:=h.after
 have hB:=h.ok.op1 ho hk
 by_cases hd:D.dead=true
 ·have e:D.op1 o=(220,D):=by
   have hc:∀i,D.check i=220:=fun i=>by unfold DM.check;rw [if_pos hd]
   cases o with
   |w i s=>show D.write i s=_;unfold DM.write;rw [hc,if_neg D_]
   |sync=>show D.sync=_;unfold DM.sync;rw [hc,if_neg D_]
  rw [e]
  exact ⟨h.mono O_, .inr ⟨rfl,hd,rfl⟩⟩
 ·have hd' : D.dead=false:=by simpa using hd
  have hc:∀i:Int,0≤i→i < n→D.check i=0:=fun i h0 h1=>by unfold DM.check;rw [if_neg hd,h.len,if_neg O_]
  by_cases ha0:D.after=0
  ·have es:D.step=(220,{ D with dead:=true }):=by unfold DM.step;rw [if_pos ha0]
   have e:D.op1 o=(220,{ D with dead:=true }):=by
    cases o with
    |w i s=>show D.write i s=_;unfold DM.write;rw [hc i ho.1 ho.2,if_pos rfl,es];rfl
    |sync=>show D.sync=_;unfold DM.sync;rw [hc 0 (Int.le_refl _) (by have h0:0 < n:=ho;omega),if_pos rfl,es];rfl
   rw [e]
   exact ⟨⟨h.ok.mono O_,⟨hs.1,by show D.steps≤_;omega⟩,ha⟩, .inr ⟨rfl,rfl,rfl⟩⟩
  ·obtain ⟨a',es,ha'⟩:∃a',D.step=(0,{ D with steps:=D.steps+1,after:=a' })∧(-1≤a'∧a'≤1000000):=by
    unfold DM.step
    rw [if_neg ha0]
    exact ⟨_,rfl,by split<;>omega⟩
   cases o with
   |w i s=>
    have e:D.op1 (.w i s)=(0,addW { D with steps:=D.steps+1,after:=a' } i s):=by
     show D.write i s=_;unfold DM.write;rw [hc i ho.1 ho.2,if_pos rfl,es,if_pos rfl]
    have eB:D.base.op1 (.w i s)=(0,addW { D.base with steps:=D.base.steps+1 } i s):=by
     show D.base.write i s=_
     rw [DM.write,if_pos (h.ok.check0 ho.1 ho.2),h.ok.step];rfl
    have eb:(addW { D with steps:=D.steps+1,after:=a' } i s).base=D.base.nx (.w i s):=by
     unfold DM.nx
     rw [eB]
     exact Xie (D:={ D with steps:=D.steps+1,after:=a' }) (E:={ D.base with steps:=D.base.steps+1 }) rfl i s
    obtain ⟨c1,c2,c3,c4⟩:=X5v { D with steps:=D.steps+1,after:=a' } i s
    rw [e]
    refine ⟨⟨by rw [eb];exact h.ok.nx ho hk,?_,?_⟩, .inl ⟨rfl,by rw [c4],eb⟩⟩
    ·rw [c2];show 0≤D.steps+1∧D.steps+1≤_;omega
    ·rw [c3];exact ha'
   |sync=>
    have e:D.op1 .sync=(0,DM.synced { D with steps:=D.steps+1,after:=a' }):=by
     show D.sync=_;unfold DM.sync;rw [hc 0 (Int.le_refl _) (by have h0:0 < n:=ho;omega),if_pos rfl,es,if_pos rfl]
    have eb:(DM.synced { D with steps:=D.steps+1,after:=a' }).base=D.base.nx .sync:=by
     unfold DM.nx
     show _=D.base.sync.2.base
     rw [h.ok.sync ho];rfl
    rw [e]
    refine ⟨⟨by rw [eb];exact h.ok.nx (o:=.sync) ho hk,?_,ha'⟩, .inl ⟨rfl,rfl,eb⟩⟩
    show 0≤D.steps+1∧D.steps+1≤_;omega
theorem GoD.run {n:Nat} : ∀(l:List DOp) {k:Nat} {D:DM},GoD n k D→(∀o∈l,o.inD n)→k+l.length≤1000000000→GoD n (k+l.length) (D.run l).2 ∧
  (((D.run l).1=0∧(D.run l).2.dead=D.dead∧(D.run l).2.base=D.base.nxs l)∨((D.run l).1=220∧(D.run l).2.dead=true∧∃m,m≤l.length∧(D.run l).2.base=D.base.nxs (l.take m)))
 | [],k,D,h,_,_=>⟨h, .inl ⟨rfl,rfl,rfl⟩⟩
 |o :: l,k,D,h,hi,hk=>by
  simp only [C_] at hk
  obtain ⟨g,r⟩:=h.op1 (hi o (List.mem_cons_self ..)) O_
  rcases r with ⟨r1,r2,r3⟩|⟨r1,r2,r3⟩
  ·obtain ⟨i1,i2⟩:=GoD.run l g (fun q hq=>hi q (List.mem_cons_of_mem _ hq)) O_
   rw [DM.run,if_pos r1,C_,show k+(l.length+1)=k+1+l.length by omega]
   refine ⟨i1,?_⟩
   rw [r3] at i2
   rcases i2 with ⟨a,b,c⟩|⟨a,b,m,hm,c⟩
   ·exact .inl ⟨a,b.trans r2,c⟩
   ·exact .inr ⟨a,b,m+1,O_,c⟩
  ·rw [DM.run,if_neg (by rw [r1];decide)]
   exact ⟨g.mono (by rw [C_];omega), .inr ⟨r1,r2,0,O_,r3⟩⟩
theorem OkD.nxs {n:Nat} : ∀(l:List DOp) {k:Nat} {D:DM},OkD n k D→(∀o∈l,o.inD n)→k+l.length≤1000000000→OkD n (k+l.length) (D.nxs l)
 | [],k,D,h,_,_=>h
 |o :: l,k,D,h,hi,hk=>by
  simp only [C_] at hk
  rw [DM.nxs,C_,show k+(l.length+1)=k+1+l.length by omega]
  exact OkD.nxs l (h.nx (hi o (List.mem_cons_self ..)) O_) (fun q hq=>hi q (List.mem_cons_of_mem _ hq)) O_
theorem nx_w {n k:Nat} {D:DM} (h:OkD n k D) {i:Int} (h0:0≤i) (h1:i < n) (hk:k < 1000000000) (s:Sec) (q:Int):(D.nx (.w i s)).get q=(if q=i then D.get i ++ [s] else D.get q)∧(D.nx (.w i s)).cell q=D.cell q∧(0≤q→q < n→(D.nx (.w i s)).read q=if q=i then (s,0) else D.read q):=by
 have e:D.write i s=(0,addW { D with steps:=D.steps+1 } i s):=by
  rw [DM.write,if_pos (h.check0 h0 h1),h.step];rfl
 have hb:(D.nx (.w i s)).base=(addW D i s).base:=by
  unfold DM.nx
  show (D.write i s).2.base=_
  rw [e]
  exact Xie (D:={ D with steps:=D.steps+1 }) (E:=D) rfl i s
 refine ⟨?_,?_,fun q0 q1=>?_⟩
 ·rw [Xw5 hb,Xnt h]
 ·rw [Xvk hb]
  unfold DM.cell
  rw [(X5v D i s).1]
 ·unfold DM.nx
  show (D.write i s).2.base.read q=_
  rw [X25 (h.write h0 h1 hk s).2.1.dead,h.read_write h0 h1 hk s q0 q1]
theorem X99 {n k:Nat} {D:DM} (h:OkD n k D) (hn:0 < n):(D.nx .sync).op = []∧∀q:Int,0≤q→q < n→(D.nx .sync).read q=D.read q:=by
 have hs:=h.sync_ok hn
 refine ⟨hs.2.2.2,fun q q0 q1=>?_⟩
 unfold DM.nx
 show D.sync.2.base.read q=_
 rw [X25 hs.2.1.dead,h.read_sync hn q0 q1]
theorem X1r {D:DM} (h:D.op = []) (q:Int):D.get q = []:=by rw [X1d,h];rfl
def X6w (d:Nat):PV:=.fn (104+1000000) [.ptr d 0]
theorem Xyp (at_ most:Int) (D:DM):Xe Tryz.prog 93 [.ptr 1000004 0] (jG 1000001 1000002 1000003 1000004 at_ most D) (dMs 1000003 D) (.agg [X6w 1000001]) (jG 1000001 1000002 1000003 1000004 at_ most D) (dMs 1000003 D):=by
 refine Xn X6 Tryz.func93 rfl rfl (by simp [PV.ownB]) N_ (by simp [X0,jG,dG,dMs]) (by simp [X0,jG,dG,dMs]) (by exact hok0) ?_
 refine wk ?_
 exact RetH.mk (Vb (Yq rfl rfl rfl rfl rfl)) (Weak.refl _) aw0 am0
theorem X8r (at_ most:Int) (D:DM) (d c m j:Nat) (hd:([d,c,m,j]:List Nat).Nodup):Xe Tryz.prog 93 [.ptr j 0] (jG d c m j at_ most D) (dMs m D) (.agg [X6w d]) (jG d c m j at_ most D) (dMs m D):=by
 refine (Xyp at_ most D).at (ids4 d c m j) hd (by simp [X0,jG,dG,dMs,ids4]) (by simp [jG,dG]) (by simp [dMs]) ?_ ?_ ?_ ?_ ?_ ?_<;>exact ren0
def putF (bl bj:Nat):PV:=.fn 102 [.ptr bl 0, .ptr bj 0]
theorem Y4m (at_ most:Int) (D:DM) (l:List PPut):Xe Tryz.prog 91 [.ptr 1000004 0,Yo l] (jG 1000001 1000002 1000003 1000004 at_ most D) (dMs 1000003 D) (.agg [putF 1 0]) ((0,[.ptr 1000004 0]) :: (1,[Yo l]) :: jG 1000001 1000002 1000003 1000004 at_ most D) (dMs 1000003 D):=by
 refine Xn X6 Tryz.func91 rfl rfl (by simp [PV.ownB,Yo]) N_ (by simp [X0,jG,dG,dMs]) (by simp [X0,jG,dG,dMs]) (by exact hok0) ?_
 refine wk ?_
 exact RetH.mk (Vb (Yq rfl rfl rfl rfl rfl)) (Weak.refl _) aw0 am0
theorem Xnx (at_ most:Int) (D:DM) (l:List PPut) (d c m j b0 b1:Nat) (hd:([d,c,m,j,b0,b1]:List Nat).Nodup):Xe Tryz.prog 91 [.ptr j 0,Yo l] (jG d c m j at_ most D) (dMs m D) (.agg [putF b1 b0]) ((b0,[.ptr j 0]) :: (b1,[Yo l]) :: jG d c m j at_ most D) (dMs m D):=by
 refine (Y4m at_ most D l).at (ids4 d c m j ++ [(0,b0),(1,b1)]) (by simpa [ids4] using hd) (by simp [X0,jG,dG,dMs,ids4]) (by simp [jG,dG]) (by simp [dMs]) ?_ ?_ ?_ ?_ ?_ ?_<;>exact ren0
def Xdo (b0 b1 b2:Nat):PV:=.fn 105 [.ptr b1 0, .ptr b2 0, .ptr b0 0]
theorem Xzs (at_ most:Int) (D:DM) (n:Int) (G:List Int) (hG:G.length=16):Xe Tryz.prog 94 [.ptr 1000004 0,pint n, .agg (G.map Xh)] (jG 1000001 1000002 1000003 1000004 at_ most D) (dMs 1000003 D) (.agg [Xdo 0 1 2]) ((0,[.ptr 1000004 0]) :: (1,[pint n]) :: (2,G.map Xh) :: jG 1000001 1000002 1000003 1000004 at_ most D) (dMs 1000003 D):=by
 have hl:∀c∈G.map Xh,Low c:=Kx (fun _=>Low.val _) _
 refine Xn X6 Tryz.func94 rfl rfl (by simp [PV.ownB,pint]) N_ (by simp [X0,jG,dG,dMs]) (by simp [X0,jG,dG,dMs]) (by exact hok0) ?_
 refine wk ?_
 exact RetH.mk (Vb (Yq rfl rfl rfl rfl rfl)) (Weak.refl _) aw0 am0
theorem X9a (at_ most:Int) (D:DM) (n:Int) (G:List Int) (hG:G.length=16) (d c m j b0 b1 b2:Nat) (hd:([d,c,m,j,b0,b1,b2]:List Nat).Nodup):Xe Tryz.prog 94 [.ptr j 0,pint n, .agg (G.map Xh)] (jG d c m j at_ most D) (dMs m D) (.agg [Xdo b0 b1 b2]) ((b0,[.ptr j 0]) :: (b1,[pint n]) :: (b2,G.map Xh) :: jG d c m j at_ most D) (dMs m D):=by
 have hl:∀c∈G.map Xh,Low c:=Kx (fun _=>Low.val _) _
 have hl2:Low (.agg (G.map Xh)):=.agg _ hl
 refine (Xzs at_ most D n G hG).at (ids4 d c m j ++ [(0,b0),(1,b1),(2,b2)]) (by simpa [ids4] using hd) (by simp [X0,jG,dG,dMs,ids4]) (by simp [jG,dG]) (by simp [dMs]) ?_ ?_ ?_ ?_ ?_ ?_
 ·exact .cons (Ren.ptr _ _ (by first|(simp [X0];done)|(simp [X0,dG,dMs];done)|(simp [X0,dG,dMs,crG,crM];done)|(simp [X0,dG,dMs,jG];done))) (.cons (.low _ (.val _)) (.cons (.low _ hl2) .nil))
 all_goals exact ren0
def DM.four (D:DM) (at_:Int) (l:List PPut) (g:Sec):DM:=((D.puts l).sync.2.write at_ g).2.sync.2
def X4s (a b c d e f:Nat):PV:=.sl 4 1 [putF b a,X6w f,Xdo c d e,X6w f] none
theorem Xoi {S:Nat→Prop} {a b c d e f:Nat} (h1:S a) (h2:S b) (h3:S c) (h4:S d) (h5:S e) (h6:S f):Ren (fun i=>i) S (X4s a b c d e f) (X4s a b c d e f):=by
 have k1:RenL (fun i=>i) S [.ptr b 0, .ptr a 0] [.ptr b 0, .ptr a 0]:=.cons (.ptr _ _ h2) (.cons (.ptr _ _ h1) .nil)
 have k2:RenL (fun i=>i) S [.ptr f 0] [.ptr f 0]:=.cons (.ptr _ _ h6) .nil
 have k3:RenL (fun i=>i) S [.ptr d 0, .ptr e 0, .ptr c 0] [.ptr d 0, .ptr e 0, .ptr c 0]:=.cons (.ptr _ _ h4) (.cons (.ptr _ _ h5) (.cons (.ptr _ _ h3) .nil))
 have k:RenL (fun i=>i) S [putF b a,X6w f,Xdo c d e,X6w f] [putF b a,X6w f,Xdo c d e,X6w f]:=.cons (.fn _ _ _ k1.1 k1.2) (.cons (.fn _ _ _ k2.1 k2.2) (.cons (.fn _ _ _ k3.1 k3.2) (.cons (.fn _ _ _ k2.1 k2.2) .nil)))
 exact .sl _ _ _ _ k.1 k.2
theorem Xcf {ρ:Nat→Nat} {S:Nat→Prop} {a b c d e f:Nat} (h1:S a) (h2:S b) (h3:S c) (h4:S d) (h5:S e) (h6:S f):Ren ρ S (X4s a b c d e f) (X4s (ρ a) (ρ b) (ρ c) (ρ d) (ρ e) (ρ f)):=by
 have k1:RenL ρ S [.ptr b 0, .ptr a 0] [.ptr (ρ b) 0, .ptr (ρ a) 0]:=.cons (.ptr _ _ h2) (.cons (.ptr _ _ h1) .nil)
 have k2:RenL ρ S [.ptr f 0] [.ptr (ρ f) 0]:=.cons (.ptr _ _ h6) .nil
 have k3:RenL ρ S [.ptr d 0, .ptr e 0, .ptr c 0] [.ptr (ρ d) 0, .ptr (ρ e) 0, .ptr (ρ c) 0]:=.cons (.ptr _ _ h4) (.cons (.ptr _ _ h5) (.cons (.ptr _ _ h3) .nil))
 have k:RenL ρ S [putF b a,X6w f,Xdo c d e,X6w f] [putF (ρ b) (ρ a),X6w (ρ f),Xdo (ρ c) (ρ d) (ρ e),X6w (ρ f)]:=.cons (.fn _ _ _ k1.1 k1.2) (.cons (.fn _ _ _ k2.1 k2.2) (.cons (.fn _ _ _ k3.1 k3.2) (.cons (.fn _ _ _ k2.1 k2.2) .nil)))
 exact .sl _ _ _ _ k.1 k.2
def idsA (d c m j b0 b1 b2 b3 b4:Nat):List (Nat×Nat):=ids4 d c m j ++ [(1000005,b0),(1000006,b1),(1000007,b2),(1000008,b3),(1000009,b4)]
def Vt:List Int:=List.replicate 16 0
theorem X03:∀x∈Vt,0≤x∧x < 256:=D_
def Xj:Sec:=Xq 0 Vt rfl X03
def X3c (l:List PPut) (R:Nat):Nat→List Sec
 |0=>List.replicate R Ye
 |t+1=>(X3c l R t).set (t / 64) (setB ((X3c l R t).getD (t / 64) default) (t % 64) ((l.getD (t / 4) default).sec.fdiv (2 ^ min (8 * (t % 4)) 64)))
theorem X0q (l:List PPut) (R:Nat):∀t,(X3c l R t).length=R
 |0=>List.length_replicate ..
 |t+1=>by rw [X3c,List.length_set,X0q l R t]
theorem Yaj (l:List PPut) (R:Nat):(List.replicate (R:Int).toNat (List.replicate 64 (Xh 0))).flatten=(X3c l R 0).flatMap secL:=by
 rw [X3c,List.flatMap,List.map_replicate];rfl
theorem Xio (l:List PPut) (R t:Nat):((X3c l R t).flatMap secL).length=R * 64:=by rw [Kk (fun _=>Xl _),X0q]
theorem Xvx (z:Int) (k:Nat) (hk:k < 64):∀(rs:List Sec) (r:Nat),r < rs.length→(rs.flatMap secL).set (r * 64+k) (Xh (IntKind.u8.wrap z))=(rs.set r (setB (rs.getD r default) k z)).flatMap secL
 | [],r,h=>absurd h S_
 |s :: rs,0,_=>by
  rw [List.flatMap_cons,List.set_append_left _ _ (by rw [Xl];omega),List.set_cons_zero,List.flatMap_cons]
  show _=List.map Xh (s.1.set k _) ++ _
  rw [List.map_set,Nat.zero_mul,Nat.zero_add];rfl
 |s :: rs,r+1,h=>by
  rw [List.flatMap_cons,List.set_append_right _ _ (by rw [Xl];omega),Xl,show (r+1) * 64+k - 64=r * 64+k by omega,Xvx z k hk rs r (by simpa using h),List.set_cons_succ,List.flatMap_cons]
  rfl
theorem Xwf (l:List PPut) (R i e:Nat) (hi:i / 16 < R) (he:e < 4):Y5 ((X3c l R (4 * i+e)).flatMap secL) (0+((i:Int) / 16).toNat * 64+((i:Int) % 16 * 4+e).toNat * 1) [Xh (IntKind.u8.wrap ((l.getD i default).sec.fdiv (2 ^ min (8 * (e:Int)).toNat 64)))]=(X3c l R (4 * i+(e+1))).flatMap secL:=by
 have e1:0+((i:Int) / 16).toNat * 64+((i:Int) % 16 * 4+e).toNat * 1=i / 16 * 64+(i % 16 * 4+e):=O_
 have e2:(4 * i+e) / 64=i / 16:=O_
 have e3:(4 * i+e) % 64=i % 16 * 4+e:=O_
 have e4:(4 * i+e) / 4=i:=O_
 have e5:(8 * (e:Int)).toNat=8 * ((4 * i+e) % 4):=O_
 rw [e1,Xe7 (by rw [Xio];omega),Xvx _ _ O_ _ _ (by rw [X0q];omega),←Nat.add_assoc (4 * i) e 1,X3c,e2,e3,e4,e5]
def X6g (at_ most:Int) (l:List PPut):List PPut:=(List.range l.length).map fun (i:Nat)=>⟨at_+1+Xg most+i,(l.getD i default).dat⟩
def X50 (at_:Int) (rs:List Sec):List PPut:=(List.range rs.length).map fun (i:Nat)=>⟨at_+1+i,rs.getD i default⟩
def K0 (at_ most:Int) (l:List PPut):List PPut:=X6g at_ most l ++ X50 at_ (X3c l (Xg l.length).toNat (4 * l.length))
def outA (l:List PPut):Nat→PV
 |0=>.nilsl
 |k+1=>.sl (k+1) 65 ((l.take (k+1)).flatMap putL) (some 134)
theorem Xng (l:List PPut):∀k,Low (outA l k)
 |0=>.nilsl
 |k+1=>.sl _ _ _ _ (V9 Vp _)
theorem X4l (z:Int) (s:Sec):X11 (fun i=>(([(0,1,false),(1,64,true)]:List (Nat×Nat×Bool))[i]?).map fun x=>(x.1,x.2.1)) ([PV.val (.int .i64 0)] ++ List.replicate 64 (PV.val (.int .u8 0))) [(0,pint z),(1, .agg (secL s))]=some (putL ⟨z,s⟩):=by
 have h1:X01 (pint z)=some [pint z]:=rfl
 have h2:X01 (.agg (secL s))=some (secL s):=by rw [X01,Ko,Xt];rfl
 rw [X11,h1]
 show (if [pint z].length=1∧0+1≤65 then X11 _ (pint z :: List.replicate 64 (PV.val (.int .u8 0))) [(1, .agg (secL s))] else none)=_
 rw [if_pos ⟨rfl,D_⟩,X11,h2]
 show (if (secL s).length=64∧1+64≤65 then X11 _ (splF (pint z :: List.replicate 64 (PV.val (.int .u8 0))) 1 (secL s)) [] else none)=_
 rw [if_pos ⟨Xl s,D_⟩,X11,Zh _ _ _ (by rw [Xl];exact Nat.le_of_ble_eq_true rfl),Y5,Xl]
 show some (pint z :: ([] ++ secL s ++ []))=_
 rw [List.nil_append,List.append_nil];rfl
theorem Xsj (at_ most:Int) (l:List PPut) (k:Nat) (h:k < l.length):(X6g at_ most l).getD k default=⟨at_+1+Xg most+k,(l.getD k default).dat⟩:=by
 rw [X6g,G_,M_,List.getElem?_range h];rfl
theorem X7z (at_ most:Int) (l:List PPut):(X6g at_ most l).length=l.length:=by simp [X6g]
theorem Xs3 (at_ most:Int) (l:List PPut) (k:Nat) (h:k < l.length):outA (X6g at_ most l) (k+1) = .sl (k+1) 65 (((X6g at_ most l).take k).flatMap putL ++ putL ⟨at_+1+Xg most+k,(l.getD k default).dat⟩) (some 134):=by
 rw [outA,Vj default (by rw [X7z];exact h),Xsj at_ most l k h,List.flatMap_append]
 show PV.sl _ _ (_ ++ (putL _ ++ [])) _=_
 rw [List.append_nil]
theorem Xs8 (at_ most:Int) (l:List PPut) (h:0 < l.length):outA (X6g at_ most l) l.length = .sl l.length 65 ((X6g at_ most l).flatMap putL) (some 134):=by
 have e:=X7z at_ most l
 generalize X6g at_ most l=A at *
 rw [←e] at h ⊢
 cases A with
 |nil=>exact absurd h S_
 |cons a A=>show outA (a :: A) (A.length+1)=_;rw [outA,H_ S_];rfl
end
section
open Go.RowKit
variable {P:Program} {T:Tab} {σ:PS} {o:Oper} {i base:Nat} {ops:Array Oper} {ok:Nat→Nat→Bool} {rest:List (Nat×Oper)} {K:PS→Prop}
theorem X5.bld2 {d f g:Nat} {out:List PV} {px py:PV} {x y:Operand} {t:TypeId} {ti:TyI} {l:List (Nat×Nat×Bool)} (hg:Xk ops σ o=some true) (hd:o.dst=some d) (hop:o.op = .build t #[(f,x),(g,y)]) (hx:pev σ x=px) (hy:pev σ y=py) (ht:T.at t=some ti) (hk:ti.kind = .struct l) (hb:σ.freeB (base+i)=true) (hf:X11 (fun i=>(l[i]?).map fun x=>(x.1,x.2.1)) ti.zero [(f,px),(g,py)]=some out)
  (kn:X5 P T ops base ok rest K (σ.put d (.agg out))):X5 P T ops base ok ((i,o) :: rest) K σ:=by
 refine X5.valEq hg hd (p:=.agg out) ?_ rfl hb kn
 simp only [hop,presE,V5,pval,ht,Xjj,hk,List.map_cons,List.map_nil,Xv,hx,hy,hf,Option.map_some]
end
section
open Go.RowKit
theorem Xyc (at_ most:Int) (D:DM) (l:List PPut) (h0:0≤at_) (h1:at_ < 1000000000) (m0:1≤most) (m1:most≤1024) (hl:l.length≤1024) (hl0:0 < l.length):Xe Tryz.prog 92 [.ptr 1000004 0,Yo l] (jG 1000001 1000002 1000003 1000004 at_ most D) (dMs 1000003 D) (Yo (K0 at_ most l)) (jG 1000001 1000002 1000003 1000004 at_ most D) (dMs 1000003 D):=by
 have hll:=Kw l
 have hla:=Kw (K0 at_ most l)
 have c1:=Xm D
 have c2:=Xi D
 refine Xn X6 Tryz.func92 rfl rfl (by simp [PV.ownB,Yo]) N_ (by simp [X0,jG,dG,dMs]) (by simp [X0,jG,dG,dMs]) (by exact hok0) ?_
 have hn:=X66 l.length O_ O_
 have hnm:=X66 most O_ O_
 obtain ⟨R,hR⟩:∃R:Nat,Xg l.length=R:=⟨(Xg l.length).toNat,by unfold Xg;omega⟩
 have hRb:R≤64:=by unfold Xg at hR;omega
 rw [hR] at hn
 refine wk ?_
 refine X5.mkS (out:=(X3c l R 0).flatMap secL) rfl rfl rfl rfl rfl rfl rfl rfl ⟨O_,O_,O_⟩ (Yaj l R) ?_
 refine wk ?_
 rw [Int.toNat_natCast]
 have a1:=Xng (X6g at_ most l)
 have a2:∀k,∀c∈(X3c l R k).flatMap secL,Low c:=fun k=>V9 Zc _
 have a3:=Xio l R
 have hRl:(R:Int)=((l.length:Int)+15) / 16:=hR.symm
 refine PW.loop (fun i:Nat=>((((((((((bot.setb 1000004 (jB 1000001 at_ most)).setb 1000001 (dB 1000002 1000003 D)).setb 1000002 (dC D)).setm 1000003 (dM D)).setb 1003 ((X3c l R (4 * i)).flatMap secL)).put 0 (.ptr 1000004 0)).put 5 (.msl 1003 0 R 64)).put 6 (outA (X6g at_ most l) i)).put 16 (Yo l)).put 17 (pint l.length)).put 18 (pint i)) (fun i=>i≤l.length) (fun i=>l.length - i) 0 O_ ?_ ?_
 ·have b1:=a1 0
  have b2:=a2 0
  exact sb
 ·intro i hi
  by_cases hlt:i < l.length
  ·refine wk ?_
   refine PW.loop (fun e:Nat=>(((((((((((((bot.setb 1000004 (jB 1000001 at_ most)).setb 1000001 (dB 1000002 1000003 D)).setb 1000002 (dC D)).setm 1000003 (dM D)).setb 1003 ((X3c l R (4 * i+e)).flatMap secL)).setb 5003 (putL (l.getD i default))).put 0 (.ptr 1000004 0)).put 5 (.msl 1003 0 R 64)).put 6 (outA (X6g at_ most l) i)).put 7 (pint i)).put 8 (.ptr 5003 0)).put 16 (Yo l)).put 17 (pint l.length)).put 18 (pint i) |>.put 23 (pint e)) (fun e=>e≤4) (fun e=>4 - e) 0 O_ ?_ ?_
   ·have b1:=a1 i
    have b2:=a2 (4 * i+0)
    have hp:=Vp (l.getD i default)
    exact sb
   ·intro e he
    by_cases hlt4:e < 4
    ·have hi16:(i:Int) / 16 < R:=O_
     have hi0:0≤(i:Int) / 16:=O_
     have hj0:0≤(i:Int) % 16 * 4+e:=O_
     have hj1:(i:Int) % 16 * 4+e < 64:=O_
     refine wk ?_
     refine X5.stB (out:=(X3c l R (4 * i+(e+1))).flatMap secL) rfl rfl rfl rfl rfl rfl rfl rfl rfl ⟨rfl,by rw [a3];simp only [C_,List.length_nil];omega⟩ (Xwf l R i e O_ hlt4) ?_
     have b1:=a1 i
     have b2:=a2 (4 * i+(e+1))
     have hp:=Vp (l.getD i default)
     refine wk ?_
     refine Y4 (e+1) O_ O_ ?_
     exact sb
    ·have ee:e=4:=O_
     subst ee
     have ho:=Xs3 at_ most l i hlt
     have b1:=a1 (i+1)
     rw [ho] at b1
     have hnb:0≤Xg most∧Xg most≤1000:=by unfold Xg;omega
     generalize hnM:Xg most=nM at *
     cases i with
     |zero=>
      refine wk ?_
      generalize l.getD (0) default=p at *
      refine X5.ldBA (row:=secL p.dat) rfl rfl rfl rfl rfl rfl rfl (by rw [Yi];decide) (by show List.map PV.bare (List.take 64 (secL p.dat))=secL p.dat;rw [H_ (by rw [Xl];omega),Xt]) ?_
      refine X5.bld2 (out:=putL ⟨at_+1+nM+((0:Nat):Int),p.dat⟩) rfl rfl rfl rfl rfl rfl rfl rfl ?_ ?_
      ·exact X4l _ _
      refine wk ?_
      refine Y4 (0+1) O_ O_ ?_
      try dsimp only
      rw [ho,show 4 * (0+1)=4 * (0)+4 by omega]
      have b2:=a2 (4 * (0)+4)
      exact sb
     |succ k=>
      refine wk ?_
      generalize l.getD (k+1) default=p at *
      refine X5.ldBA (row:=secL p.dat) rfl rfl rfl rfl rfl rfl rfl (by rw [Yi];decide) (by show List.map PV.bare (List.take 64 (secL p.dat))=secL p.dat;rw [H_ (by rw [Xl];omega),Xt]) ?_
      refine X5.bld2 (out:=putL ⟨at_+1+nM+((k+1:Nat):Int),p.dat⟩) rfl rfl rfl rfl rfl rfl rfl rfl ?_ ?_
      ·exact X4l _ _
      refine wk ?_
      refine Y4 (k+1+1) O_ O_ ?_
      try dsimp only
      rw [ho,show 4 * (k+1+1)=4 * (k+1)+4 by omega]
      have b2:=a2 (4 * (k+1)+4)
      exact sb
  ·have e:i=l.length:=O_
   subst e
   rw [Xs8 at_ most l hl0]
   have b0:Low (.sl l.length 65 ((X6g at_ most l).flatMap putL) (some 134)):=.sl _ _ _ _ (V9 Vp _)
   have b2:=a2 (4 * l.length)
   have a4:=X0q l R (4 * l.length)
   have a5:K0 at_ most l=X6g at_ most l ++ X50 at_ (X3c l R (4 * l.length)):=by rw [K0,hR,Int.toNat_natCast]
   have a6:=X7z at_ most l
   rw [a5]
   clear a5 hla a2 a3 a1 hRl
   generalize X3c l R (4 * l.length)=rs at *
   generalize X6g at_ most l=A at *
   refine wk ?_
   refine PW.loop (fun i:Nat=>((((((((((bot.setb 1000004 (jB 1000001 at_ most)).setb 1000001 (dB 1000002 1000003 D)).setb 1000002 (dC D)).setm 1000003 (dM D)).setb 1003 (rs.flatMap secL)).put 0 (.ptr 1000004 0)).put 6 (.sl (l.length+i) 65 (A.flatMap putL ++ ((X50 at_ rs).take i).flatMap putL) (some 134))).put 63 (.msl 1003 0 R 64)).put 64 (pint R)).put 65 (pint i))) (fun i=>i≤R) (fun i=>R - i) 0 O_ ?_ ?_
   ·rw [show A.flatMap putL ++ ((X50 at_ rs).take 0).flatMap putL=A.flatMap putL by simp,Nat.add_zero]
    exact sb
   ·intro i hi
    by_cases hlt:i < R
    ·have hrow:(((rs.flatMap secL).drop (0+(i:Int).toNat * 64)).take 64).map PV.bare=secL (rs.getD i default):=by
      rw [show 0+(i:Int).toNat * 64=i * 64 by omega,Vq (fun _=>Xl _) (x:=rs.getD i default) (by rw [G_,E_ O_];rfl),Xt]
     have hlen:(rs.flatMap secL).length=R * 64:=by rw [Kk (fun _=>Xl _),a4]
     refine wg ?_
     refine PW.region X6 K_ ?_
     refine wg ?_
     refine PW.region X6 K_ ?_
     (refine ops0 ?_)
     (refine ops0 ?_)
     refine X5.ldBA (row:=secL (rs.getD i default)) rfl rfl rfl rfl rfl rfl rfl (by rw [hlen];omega) hrow ?_
     clear hrow
     obtain ⟨s,hs⟩:∃s,s=rs.getD i default:=⟨_,rfl⟩
     rw [←hs]
     have hsl:=Zc s
     have hN:(X50 at_ rs).take (i+1)=(X50 at_ rs).take i ++ [⟨at_+1+i,s⟩]:=by
      rw [Vj default (by simp [X50];omega)]
      have:(X50 at_ rs).getD i default=⟨at_+1+i,s⟩:=by
       rw [X50,G_,M_,List.getElem?_range O_,hs];rfl
      rw [this]
     clear hs
     refine wk ?_
     refine X5.bld2 (out:=putL ⟨at_+1+(i:Int),s⟩) rfl rfl rfl rfl rfl rfl rfl rfl (X4l _ _) ?_
     refine wk ?_
     refine Y4 (i+1) O_ O_ ?_
     have b6:Low (.sl (l.length+i+1) 65 (A.flatMap putL ++ ((X50 at_ rs).take i).flatMap putL ++ putL ⟨at_+1+(i:Int),s⟩) (some 134)):=.sl _ _ _ _ (fun c hc=>(List.mem_append.1 hc).elim (fun hc=>(List.mem_append.1 hc).elim (V9 Vp _ c) (V9 Vp _ c)) (Vp _ c))
     try dsimp only
     rw [hN,List.flatMap_append,show ([⟨at_+1+(i:Int),s⟩]:List PPut).flatMap putL=putL ⟨at_+1+(i:Int),s⟩ from List.append_nil _,←List.append_assoc,←Nat.add_assoc]
     exact sb
    ·have e:i=R:=O_
     subst e
     have a7:(X50 at_ rs).length=i:=by simp [X50,a4]
     rw [H_ O_,show Yo (A ++ X50 at_ rs) = .sl (l.length+i) 65 (A.flatMap putL ++ (X50 at_ rs).flatMap putL) none by rw [Yo,A_,a6,a7,List.flatMap_append]]
     have b5:Low (.sl (l.length+i) 65 (A.flatMap putL ++ (X50 at_ rs).flatMap putL) (some 134)):=.sl _ _ _ _ (fun c hc=>(List.mem_append.1 hc).elim (V9 Vp _ c) (V9 Vp _ c))
     generalize A.flatMap putL ++ (X50 at_ rs).flatMap putL=B at *
     refine wk ?_
     exact RetH.mk rfl (Weak.refl _) aw0 am0
theorem Xse (at_ most:Int) (D:DM) (l:List PPut) (h0:0≤at_) (h1:at_ < 1000000000) (m0:1≤most) (m1:most≤1024) (hl:l.length≤1024) (hl0:0 < l.length) (d c m j:Nat) (hd:([d,c,m,j]:List Nat).Nodup):Xe Tryz.prog 92 [.ptr j 0,Yo l] (jG d c m j at_ most D) (dMs m D) (Yo (K0 at_ most l)) (jG d c m j at_ most D) (dMs m D):=by
 refine (Xyc at_ most D l h0 h1 m0 m1 hl hl0).at (ids4 d c m j) hd (by simp [X0,jG,dG,dMs,ids4]) (by simp [jG,dG]) (by simp [dMs]) ?_ ?_ ?_ ?_ ?_ ?_<;>exact ren0
def accB (z:Int) (e:Nat):Int:=((z.toNat % 2 ^ (8 * e):Nat):Int)
def Z1 (z:Int) (e:Nat):Int:=IntKind.u8.wrap (z.fdiv (2 ^ min (8 * e) 64))
theorem Xb0 (z:Int) (h0:0≤z) (e:Nat) (he:e < 4):Z1 z e=((z.toNat / 2 ^ (8 * e) % 256:Nat):Int):=by
 obtain ⟨n,rfl⟩:∃n:Nat,z=n:=⟨z.toNat,O_⟩
 unfold Z1
 rw [IntKind.wrap_u8,Nat.min_eq_left O_,Int.fdiv_eq_ediv_of_nonneg _ (by exact Int.le_of_lt (Int.pow_pos D_)),Int.toNat_natCast]
 have:((2:Int) ^ (8 * e))=((2 ^ (8 * e):Nat):Int):=S_
 rw [this]
 omega
theorem Xit (z:Int) (h0:0≤z) (e:Nat) (he:e < 4):accB z (e+1)=accB z e+Z1 z e * ((2 ^ (8 * e):Nat):Int):=by
 rw [Xb0 z h0 e he]
 unfold accB
 have h1:2 ^ (8 * (e+1))=2 ^ (8 * e) * 256:=by rw [Nat.mul_add,Nat.pow_add]
 rw [h1,Nat.mod_mul]
 generalize 2 ^ (8 * e)=P
 rw [Int.natCast_add,Int.natCast_mul,Int.mul_comm]
theorem Y8l (z:Int) (h0:0≤z) (h1:z < 4294967296):accB z 4=z:=by
 unfold accB
 rw [Nat.mod_eq_of_lt]
 ·omega
 ·show z.toNat < 2 ^ 32
  omega
theorem Y30 (a b e:Nat) (he:e < 4) (ha:a < 2 ^ (8 * e)) (hb:b < 256):IntKind.i64.wrap (((BitVec.ofInt 64 (a:Int) ||| BitVec.ofInt 64 ((b * 2 ^ (8 * e):Nat):Int)).toNat:Nat):Int)=((a+b * 2 ^ (8 * e):Nat):Int):=by
 have hP:2 ^ (8 * e)≤2 ^ 24:=Nat.pow_le_pow_right D_ O_
 have hbP:b * 2 ^ (8 * e)≤255 * 2 ^ 24:=Nat.mul_le_mul O_ hP
 have e1:(BitVec.ofInt 64 (a:Int) ||| BitVec.ofInt 64 ((b * 2 ^ (8 * e):Nat):Int)).toNat=a ||| b * 2 ^ (8 * e):=by
  rw [BitVec.toNat_or,BitVec.ofInt_natCast,BitVec.ofInt_natCast,BitVec.toNat_ofNat,BitVec.toNat_ofNat,Nat.mod_eq_of_lt O_,Nat.mod_eq_of_lt O_]
 have e2:a ||| b * 2 ^ (8 * e)=a+b * 2 ^ (8 * e):=by
  have:=Nat.shiftLeft_add_eq_or_of_lt ha b
  rw [Nat.shiftLeft_eq] at this
  rw [Nat.or_comm,←this,Nat.add_comm]
 rw [e1,e2]
 exact Zp O_ O_
theorem Xrw (z:Int) (h0:0≤z) (e:Nat) (he:e < 4):IntKind.i64.wrap (((BitVec.ofInt 64 (accB z e) ||| BitVec.ofInt 64 (Z1 z e * ((2 ^ (8 * e):Nat):Int))).toNat:Nat):Int)=accB z (e+1):=by
 rw [Xit z h0 e he,Xb0 z h0 e he]
 unfold accB
 have h1:=Nat.mod_lt z.toNat (Nat.pow_pos (n:=8 * e) (show 0 < 2 by decide))
 have h2:=Nat.mod_lt (z.toNat / 2 ^ (8 * e)) (show 0 < 256 by decide)
 have h3:=Y30 (z.toNat % 2 ^ (8 * e)) (z.toNat / 2 ^ (8 * e) % 256) e he h1 h2
 rw [←Int.natCast_mul,h3,Int.natCast_add]
theorem Xim (z:Int) (h0:0≤z) (e:Nat) (he:e < 4):IntKind.i64.wrap (Z1 z e * 2 ^ min (8 * (e:Int)).toNat (IntKind.bits .i64))=Z1 z e * ((2 ^ (8 * e):Nat):Int):=by
 have hb:=Xb0 z h0 e he
 have h2:=Nat.mod_lt (z.toNat / 2 ^ (8 * e)) (show 0 < 256 by decide)
 have hP:2 ^ (8 * e)≤2 ^ 24:=Nat.pow_le_pow_right D_ O_
 have e1:min (8 * (e:Int)).toNat (IntKind.bits .i64)=8 * e:=by
  show min (8 * (e:Int)).toNat 64=8 * e
  omega
 have e2:((2:Int) ^ (8 * e))=((2 ^ (8 * e):Nat):Int):=S_
 rw [e1,e2,hb,←Int.natCast_mul]
 generalize z.toNat / 2 ^ (8 * e) % 256=b at *
 have hbP:b * 2 ^ (8 * e)≤255 * 2 ^ 24:=Nat.mul_le_mul O_ hP
 exact Zp O_ O_
theorem Xf1 (l:List PPut) (R:Nat):∀(T:Nat),T≤64 * R→∀t,t < T→((X3c l R T).getD (t / 64) default).1.getD (t % 64) 0=Z1 (l.getD (t / 4) default).sec (t % 4)
 |0,_,t,h=>absurd h O_
 |T+1,hT,t,h=>by
  have hR:T / 64 < R:=O_
  rw [X3c,gset (by rw [X0q];exact hR)]
  by_cases e:t=T
  ·subst e
   rw [if_pos rfl]
   unfold setB
   rw [gset (by rw [(_:Sec).2.1];omega),if_pos rfl]
   rfl
  ·have ih:=Xf1 l R T O_ t O_
   by_cases c:t / 64=T / 64
   ·rw [if_pos c]
    unfold setB
    rw [gset (by rw [(_:Sec).2.1];omega),if_neg O_,←c]
    exact ih
   ·rw [if_neg c];exact ih
theorem Xr2 {D:DM} {at_ most:Int} {l:List PPut} (h:∀p∈K0 at_ most l,D.read p.sec=(p.dat,0)) {i:Nat} (hi:i < l.length):D.read (at_+1+Xg most+i)=((l.getD i default).dat,0):=by
 have h1:=h ⟨at_+1+Xg most+i,(l.getD i default).dat⟩ (by
  rw [K0]
  exact List.mem_append.2 (.inl (List.mem_map.2 ⟨i,List.mem_range.2 hi,rfl⟩)))
 exact h1
theorem Xro {D:DM} {at_ most:Int} {l:List PPut} (h:∀p∈K0 at_ most l,D.read p.sec=(p.dat,0)) {i:Nat} (hi:i < l.length):∃s:Sec,D.read (at_+1+(i:Int) / 16)=(s,0)∧∀e,e < 4→s.1.getD (i % 16 * 4+e) 0=Z1 (l.getD i default).sec e:=by
 have hR:(Xg l.length).toNat=(l.length+15) / 16:=by unfold Xg;omega
 have h1:=h ⟨at_+1+((i / 16:Nat):Int),(X3c l (Xg l.length).toNat (4 * l.length)).getD (i / 16) default⟩ (by
  rw [K0]
  refine List.mem_append.2 (.inr (List.mem_map.2 ⟨i / 16,List.mem_range.2 ?_,rfl⟩))
  rw [X0q,hR];omega)
 refine ⟨_,h1,fun e he=>?_⟩
 have h2:=Xf1 l (Xg l.length).toNat (4 * l.length) (by rw [hR];omega) (4 * i+e) O_
 rw [show (4 * i+e) / 64=i / 16 by omega,show (4 * i+e) % 64=i % 16 * 4+e by omega,show (4 * i+e) / 4=i by omega,show (4 * i+e) % 4=e by omega] at h2
 exact h2
end
end Go.Proofs.YtmciloafahkolaaGreatDoor
