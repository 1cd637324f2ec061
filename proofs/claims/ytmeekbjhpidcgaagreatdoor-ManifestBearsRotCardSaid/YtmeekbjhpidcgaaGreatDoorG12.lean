/- Out of: Wire5, AttrM, Slices. -/
import Derived.Test.YtmeekbjhpidcgaaGreatDoorG9
namespace Go.Proofs.YtmeekbjhpidcgaaGreatDoor
set_option linter.unusedSimpArgs false
set_option linter.unusedVariables false
set_option linter.unnecessarySimpa false
section
open Go.RowKit
def MadeIntsN (w:World) (r:List Int×Int×Int) (e:Ending) (w' : World):Prop:=
 ∃v,e = .returned (.tuple #[v, .int .i64 r.2.1, .int .i64 r.2.2])∧Own w.heap.size 3 w' v (r.1.map (Value.int .i64))∧Below w.heap.size w w'
theorem MadeIntsN.mk {w w' : World} {r:List Int×Int×Int} {l:List Int} {x y:Int} {v:Value} (h:r=(l,x,y)) (ho:Own w.heap.size 3 w' v (l.map (Value.int .i64))) (hb:Below w.heap.size w w') :
  MadeIntsN w r (.returned (.tuple #[v, .int .i64 x, .int .i64 y])) w':=by
 subst h;exact ⟨v,rfl,ho,hb⟩
theorem Bytes.dropAt {w:World} {bs:List Int} {cap b off m:Nat} (hcap:bs.length≤cap) (hm:cap≤maxLen) (hc:∀(j:Nat) (x:Int),bs[j]? = some x→w.cell? ⟨b,off+j,none⟩=some (.int .u8 x)) (hle:m≤bs.length) :
  Bytes w (.slice (some ⟨b,off+m,none⟩) (bs.length - m) (cap - m)) (bs.drop m):=by
 refine ⟨_,cap - m,b,off+m,by simp,by simp;omega,by omega,fun _=>rfl,fun j u hu=>?_⟩
 rw [List.getElem?_map,List.getElem?_drop] at hu
 obtain ⟨x,hx,rfl⟩:=Option.map_eq_some_iff.1 hu
 rw [Nat.add_assoc];exact hc _ _ hx
theorem Bytes.dropEnd {w:World} {bs:List Int} {a:Option Addr} {c m:Nat} (hm:m=bs.length) (hc:c≤maxLen) :
  Bytes w (.slice a 0 c) (bs.drop m):=by
 subst hm
 rw [List.drop_length]
 exact ⟨a,c,0,0,rfl,by simp,hc,fun h=>by simp at h,fun j u hu=>by simp at hu⟩
theorem Byte.drop {bs:List Int} (h:Byte bs) (m:Nat):Byte (bs.drop m):=fun k c hk=>h (m+k) c (by rw [←List.getElem?_drop];exact hk)
set_option maxRecDepth 100000 in
set_option maxHeartbeats 1000000 in
theorem wireGet (v:Value) (bs:List Int) (w:World) (hv:Bytes w v bs) (hby:Byte bs) (hl:bs.length≤1000000000):Calls Tryz.prog 70 #[v, .int .i64 1, .func (.func 71) #[] #[]] w (MadeIntsN w (getInts bs)):=by
 obtain ⟨a,cap,b,off,hvv,hcap,hm,ha,hc⟩:=hv.open
 have ok:=Hid.mk (lenL_ok bs 1 hby.all)
 obtain ⟨n,u,er,hr⟩:∃n u er,lenL bs 1=(n,u,er):=⟨_,_,_,rfl⟩
 have L:Hid (getInts bs=if er≠0 then ([],0,er) else andThen [] u (getN n.toNat (bs.drop u.toNat))):=by
  rw [Hid,getInts,hr]
 have HR:=Hid.mk hr
 rw [hr] at ok
 clear hr
 subst hvv
 by_cases g:er=0
 ·obtain rfl:=g
  obtain ⟨o1,o2,o3,o4⟩:=ok.out rfl
  simp only [Int.ediv_one] at o1 o2 o3 o4
  obtain ⟨N,rfl⟩:∃N:Nat,n=N:=⟨n.toNat,by omega⟩
  obtain ⟨U,rfl⟩:∃N:Nat,u=N:=⟨u.toNat,by omega⟩
  have L2:Hid (getInts bs=andThen [] U (getN N (bs.drop U))):=by rw [Hid,L.out,if_neg (by simp)];rfl
  obtain rfl:=ha (by omega)
  clear ha L ok
  go_enter Tryz.func70,Tryz.ntmps70
  go_wp2_with (go_at_call 91;refine (wireLength _ bs _ _ hv hby (by omega) (by omega)).mono ?_;rintro e w' ⟨rfl,k,rfl⟩;rw [HR.out])
  go_loopw [10,12,27] (fun p o i wr=>∃(j m:Nat) (out:List Int),j≤N∧U≤m∧m≤bs.length∧out.length=j∧i = .int .i64 j∧p = .int .i64 m∧Own w.heap.size 3 wr o (out.map (Value.int .i64))∧Below w.heap.size w wr∧Hid (getInts bs=andThen out m (getN (N - j) (bs.drop m)))) (fun _ _ i _=>N - (intOf i).toNat)
  case atStart=>exact ⟨0,U,[],by omega,by omega,by omega,rfl,rfl,rfl,Own.nil _ _ _,(Still.one _ _).below _,L2⟩
  case round=>
   obtain ⟨j,m,out,hj,hUm,hmb,ho,rfl,rfl,hown,hb,hh⟩:=hrel
   have HB:=Hid.mk hb
   have hb2:=hb.size
   have HO:=Hid.mk ho
   clear hb ho
   by_cases hlt:j < N
   ·have hv' : Bytes wr (.slice (some (if cap=m then ⟨b,off,none⟩ else ⟨b,off+m,none⟩)) (bs.length - m) (cap - m)) (bs.drop m):=by
     split
     ·rw [show bs.length - m=0 by omega];exact Bytes.dropEnd (by omega) (by omega)
     ·exact Bytes.dropAt hcap hm (fun j x hx=>below_cell HB.out (hc.out j x hx)) hmb
    have ok:=Hid.mk (getI_ok (bs.drop m) (hby.drop m).all)
    obtain ⟨x,us,e2,hr2⟩:∃x us e2,getI (bs.drop m)=(x,us,e2):=⟨_,_,_,rfl⟩
    have HV:=Hid.mk hv'
    have HR2:=Hid.mk hr2
    have NX:Hid (N - j=(N - (j+1))+1):=by rw [Hid];omega
    rw [hr2] at ok
    clear hr2 hv'
    by_cases g2:e2=0
    ·obtain rfl:=g2
     obtain ⟨p1,p2,p3,p4⟩:=ok.out rfl
     simp only [List.length_drop] at p1 p2 p3 p4
     obtain ⟨us,rfl⟩:∃N:Nat,us=N:=⟨us.toNat,by omega⟩
     have ST:Hid (getInts bs=andThen (out ++ [x]) (m+us) (getN (N - (j+1)) (bs.drop (m+us)))):=by
      rw [Hid,hh.out,NX.out,andThen_step out m _ _ _ HR2.out rfl];simp
     have LO:out.length≤N:=by rw [HO.out];omega
     clear ok hh NX
     have ec:¬cap=m:=by omega
     all_goals have HV':=HV.out
     all_goals first|rw [if_pos ec] at HV' | rw [if_neg ec] at HV'
     all_goals have HVV:=Hid.mk HV'
     all_goals clear HV'
     all_goals
      go_wp2_with (first|(at_builtin;refine wp_push (.tmp 41) (.tmp 43) 22 _ 3 8 _ elemInt rfl rfl Tryz.underlying22 w.heap.size _ (.int .i64 x) _ rfl hown.drewN rfl rfl (by simp [maxLen];omega) (by simp;omega) hb2 ?_;intro v' w' hown' hb')|(go_at_call 71;refine (wireGetInt _ (bs.drop m) _ (by first|exact HVV.out|(have h:=HVV.out;simp [ec] at h ⊢; exact h)) (hby.drop m)).mono ?_;rintro e w' ⟨rfl,q,rfl⟩;rw [HR2.out]))
      go_roundw
      case rel=>exact ⟨j+1,m+us,out ++ [x],by omega,by omega,by omega,by simp [HO.out],by go_num,by go_num,by simpa using hown',(HB.out.trans ((Still.one _ _).below _)).trans hb',ST⟩
      case measure=>simp [intOf];omega
    ·have g2' : (e2 == 0)=false:=by simpa using g2
     have ST:Hid (getInts bs=([],0,e2)):=by
      rw [Hid,hh.out,NX.out,andThen_err out m _ _ _ HR2.out g2]
     clear ok hh NX
     by_cases ec:cap=m
     all_goals have HV':=HV.out
     all_goals first|rw [if_pos ec] at HV' | rw [if_neg ec] at HV'
     all_goals have HVV:=Hid.mk HV'
     all_goals clear HV'
     all_goals
      go_wp2_with (go_at_call 71;refine (wireGetInt _ (bs.drop m) _ (by first|exact HVV.out|(have h:=HVV.out;simp [ec] at h ⊢; exact h)) (hby.drop m)).mono ?_;rintro e w' ⟨rfl,q,rfl⟩;rw [HR2.out])
      go_ret3
      exact MadeIntsN.mk ST.out (Own.nil _ _ _) (HB.out.trans ((Still.one _ _).below _))
   ·have DN:Hid (getInts bs=(out,(m:Int),0)):=by
     rw [Hid,hh.out,show N - j=0 by omega,andThen_done]
    go_wp2
    go_ret3
    exact MadeIntsN.mk DN.out hown HB.out
 ·have g' : (er == 0)=false:=by simpa using g
  have L2:Hid (getInts bs=([],0,er)):=by rw [Hid,L.out,if_pos g]
  go_enter Tryz.func70,Tryz.ntmps70
  go_wp2_with (go_at_call 91;refine (wireLength _ bs _ _ hv hby (by omega) (by omega)).mono ?_;rintro e w' ⟨rfl,k,rfl⟩;rw [HR.out])
  go_ret3
  exact MadeIntsN.mk L2.out (Own.nil _ _ _) ((Still.one _ _).below _)
theorem wireGetInts (v:Value) (bs:List Int) (w:World) (hv:Bytes w v bs) (hby:Byte bs) (hl:bs.length≤1000000000):Calls Tryz.prog 36 #[v] w (MadeIntsN w (getInts bs)):=by
 go_enter Tryz.func36,Tryz.ntmps36
 go_wp2_with (go_at_call 70;refine (wireGet _ bs _ hv hby hl).mono ?_;rintro e w1 ⟨v1,rfl,ho1,hb1⟩)
 go_ret3
 exact ⟨_,rfl,ho1,hb1⟩
theorem below_alloc (w:World) (o:Obj):Below w.heap.size w (w.alloc o):=(Below.refl _ _).alloc (Nat.le_refl _) _
def RdS (w:World) (v:Value) (k:Nat) (rows:List (List Value)):Prop:=
 ∃a cap b off,v = .slice a rows.length cap∧rows.length≤cap∧cap≤maxLen∧(0 < rows.length→a=some ⟨b,off,none⟩) ∧
  ∀i j r u,rows[i]? = some r→r[j]? = some u→w.cell? ⟨b,off+i * k+j,none⟩=some u
theorem RdS.below {w w' : World} {v:Value} {k:Nat} {rows:List (List Value)} (h:RdS w v k rows) (hb:Below w.heap.size w w'):RdS w' v k rows:=by
 obtain ⟨a,cap,b,off,h1,h2,h3,h4,h5⟩:=h
 exact ⟨a,cap,b,off,h1,h2,h3,h4,fun i j r u hr hu=>below_cell hb (h5 i j r u hr hu)⟩
def Strs (w:World) (v:Value) (l:List ByteArray):Prop:=Rd w v (l.map Value.string)
theorem Strs.below {w w' : World} {v:Value} {l:List ByteArray} (h:Strs w v l) (hb:Below w.heap.size w w'):Strs w' v l:=Rd.below h hb
theorem Ints.below {w w' : World} {v:Value} {l:List Int} (h:Ints w v l) (hb:Below w.heap.size w w'):Ints w' v l:=Rd.below h hb
theorem Bytes.below {w w' : World} {v:Value} {l:List Int} (h:Bytes w v l) (hb:Below w.heap.size w w'):Bytes w' v l:=Rd.below h hb
theorem Strs.open {w:World} {v:Value} {l:List ByteArray} (h:Strs w v l):∃a cap b off,v = .slice a l.length cap∧l.length≤cap∧cap≤maxLen ∧
  (0 < l.length→a=some ⟨b,off,none⟩)∧Hid (∀j x,l[j]? = some x→w.cell? ⟨b,off+j,none⟩=some (.string x)):=by
 obtain ⟨a,cap,b,off,h1,h2,h3,h4,h5⟩:=h
 simp only [List.length_map] at h1 h2 h4
 exact ⟨a,cap,b,off,h1,h2,h3,h4,fun j x hx=>h5 j _ (by simp [hx])⟩
def attrC (a:PAttr):List Value := [.string a.name, .int .i64 a.kind, .int .i64 a.n, .string a.s]
def attrV (a:PAttr):Value:=.agg #[.string a.name, .int .i64 a.kind, .int .i64 a.n, .string a.s]
def Attrs (w:World) (v:Value) (l:List PAttr):Prop:=RdS w v 4 (l.map attrC)
theorem Attrs.below {w w' : World} {v:Value} {l:List PAttr} (h:Attrs w v l) (hb:Below w.heap.size w w'):Attrs w' v l:=RdS.below h hb
def AttrAt (w:World) (b off:Nat) (x:PAttr):Prop:=
 w.cell? ⟨b,off,none⟩=some (.string x.name)∧w.cell? ⟨b,off+1,none⟩=some (.int .i64 x.kind)∧w.cell? ⟨b,off+2,none⟩=some (.int .i64 x.n)∧w.cell? ⟨b,off+3,none⟩=some (.string x.s)
theorem AttrAt.below {w w' : World} {b off:Nat} {x:PAttr} (h:AttrAt w b off x) (hb:Below w.heap.size w w'):AttrAt w' b off x:=
 ⟨below_cell hb h.1,below_cell hb h.2.1,below_cell hb h.2.2.1,below_cell hb h.2.2.2⟩
theorem AttrAt.lt {w:World} {b off:Nat} {x:PAttr} (h:AttrAt w b off x):b < w.heap.size:=World.block_lt_of_cell? _ _ h.1
theorem Attrs.open {w:World} {v:Value} {l:List PAttr} (h:Attrs w v l):∃a cap b off,v = .slice a l.length cap∧l.length≤cap∧cap≤maxLen ∧
  (0 < l.length→a=some ⟨b,off,none⟩)∧Hid (∀i x,l[i]? = some x→AttrAt w b (off+i * 4) x):=by
 obtain ⟨a,cap,b,off,h1,h2,h3,h4,h5⟩:=h
 simp only [List.length_map] at h1 h2 h4
 refine ⟨a,cap,b,off,h1,h2,h3,h4,fun i x hx=>?_⟩
 have e:(l.map attrC)[i]? = some (attrC x):=by simp [hx]
 exact ⟨h5 i 0 _ _ e rfl,h5 i 1 _ _ e rfl,h5 i 2 _ _ e rfl,h5 i 3 _ _ e rfl⟩
def DefAt (w:World) (b off:Nat) (d:PDef) (wv:Value):Prop:=
 w.cell? ⟨b,off,none⟩=some (.string d.name)∧w.cell? ⟨b,off+1,none⟩=some (.int .i64 d.kind)∧w.cell? ⟨b,off+2,none⟩=some (.int .i64 d.lo)∧w.cell? ⟨b,off+3,none⟩=some (.int .i64 d.hi)∧w.cell? ⟨b,off+4,none⟩=some wv
theorem DefAt.below {w w' : World} {b off:Nat} {d:PDef} {wv:Value} (h:DefAt w b off d wv) (hb:Below w.heap.size w w'):DefAt w' b off d wv:=
 ⟨below_cell hb h.1,below_cell hb h.2.1,below_cell hb h.2.2.1,below_cell hb h.2.2.2.1,below_cell hb h.2.2.2.2⟩
theorem DefAt.lt {w:World} {b off:Nat} {d:PDef} {wv:Value} (h:DefAt w b off d wv):b < w.heap.size:=World.block_lt_of_cell? _ _ h.1
def Defs (w:World) (v:Value) (l:List PDef):Prop:=
 ∃a cap b off,v = .slice a l.length cap∧l.length≤cap∧cap≤maxLen∧(0 < l.length→a=some ⟨b,off,none⟩) ∧
  ∀i d,l[i]? = some d→∃wv,DefAt w b (off+i * 5) d wv∧Strs w wv d.words
theorem Defs.below {w w' : World} {v:Value} {l:List PDef} (h:Defs w v l) (hb:Below w.heap.size w w'):Defs w' v l:=by
 obtain ⟨a,cap,b,off,h1,h2,h3,h4,h5⟩:=h
 refine ⟨a,cap,b,off,h1,h2,h3,h4,fun i d hd=>?_⟩
 obtain ⟨wv,h6,h7⟩:=h5 i d hd
 exact ⟨wv,h6.below hb,h7.below hb⟩
theorem Defs.open {w:World} {v:Value} {l:List PDef} (h:Defs w v l):∃a cap b off,v = .slice a l.length cap∧l.length≤cap∧cap≤maxLen ∧
  (0 < l.length→a=some ⟨b,off,none⟩)∧Hid (∀i d,l[i]? = some d→∃wv,DefAt w b (off+i * 5) d wv∧Strs w wv d.words):=h
def SchemaV (w:World) (v:Value) (s:PSchema):Prop:=∃dv,v = .agg #[.int .i64 s.dims, .int .i64 s.metric,dv]∧Defs w dv s.defs
theorem SchemaV.below {w w' : World} {v:Value} {s:PSchema} (h:SchemaV w v s) (hb:Below w.heap.size w w'):SchemaV w' v s:=by
 obtain ⟨dv,h1,h2⟩:=h
 exact ⟨dv,h1,h2.below hb⟩
def entryVal (e:PEntry) (vv av:Value):Value:=.agg #[.int .i64 e.id, .int .i64 e.ver, .int .i64 e.owner, .int .i64 e.filed, .int .i64 e.frm, .int .i64 e.to, .int .i64 e.born,vv,av]
def EntryV (w:World) (v:Value) (e:PEntry):Prop:=∃vv av,v=entryVal e vv av∧Ints w vv e.vec∧Attrs w av e.attrs
theorem EntryV.below {w w' : World} {v:Value} {e:PEntry} (h:EntryV w v e) (hb:Below w.heap.size w w'):EntryV w' v e:=by
 obtain ⟨vv,av,h1,h2,h3⟩:=h
 exact ⟨vv,av,h1,h2.below hb,h3.below hb⟩
def RetB (w:World) (b:Bool) (e:Ending) (w' : World):Prop:=e = .returned (.bool b)∧Below w.heap.size w w'
def RetI (w:World) (n:Int) (e:Ending) (w' : World):Prop:=e = .returned (.int .i64 n)∧Below w.heap.size w w'
theorem RetB.mk {w w' : World} {a b:Bool} (h:a=b) (hb:Below w.heap.size w w'):RetB w b (.returned (.bool a)) w':=⟨by rw [h],hb⟩
theorem RetI.mk {w w' : World} {a b:Int} (h:a=b) (hb:Below w.heap.size w w'):RetI w b (.returned (.int .i64 a)) w':=⟨by rw [h],hb⟩
theorem zeroCells_sizeB (z:Value) (n:Nat):(Builtin.zeroCells #[z] n).size=n:=by simp [Builtin.zeroCells]
set_option maxRecDepth 100000 in
theorem slicesGrowB (n:Nat) (w:World) (hn:n≤1000000000) :
  Calls Tryz.prog 65 #[.slice none 0 0, .int .i64 n] w (MadeRow 5 w []):=by
 by_cases h0:n=0
 ·subst h0
  go_enter Tryz.func65,Tryz.ntmps65
  go_wp2
  go_ret
  exact ⟨_,rfl,Own.nil _ _ _,Below.refl _ _⟩
 ·obtain ⟨i0,hi,hz0,hz1,hz2⟩:=info_parts (elemByte).info
  have hg0:decide (0 < n)=true:=by simp;omega
  have HI:=Lib.hid hi
  have HZ0:=Lib.hid hz0
  have HZ1:=Lib.hid hz1
  have HZ2:=Lib.hid hz2
  clear hi hz0 hz1 hz2
  go_enter Tryz.func65,Tryz.ntmps65
  go_wp2_with (at_builtin;refine Lib.wpList_append_run w rfl (.tmp 20) (.tmp 21) 26 3 rfl (.slice none 0 0) (.int .i64 n) rfl rfl _ _ (Lib.run_append_nil_zeros w 26 3 _ 5 i0 _ .i64 .i64 Tryz.underlying26 Tryz.underlying3 HI.out HZ0.out n (by omega) (by rw [HZ1.out];omega) (by omega) (by rw [HZ2.out];omega)) ?_)
  go_ret
  refine ⟨_,rfl,?_,(Below.refl _ _).drew.alloc (Nat.le_refl _) _⟩
  have hge:=grownCap_ge w n 0 5
  refine World.ownsRow_made w.drew _ _ (Nat.le_refl _) (grownCap_le_maxLen w n 0 _ (by unfold maxLen;omega)) ?_
  rw [Array.size_append,zeroCells_sizeB,zeroCells_sizeB]
  omega
theorem slotsB {w:World} {v:Value} {vs:List Value} (h:Rd w v vs):∃a cap b off,v = .slice a vs.length cap∧vs.length≤cap∧cap≤maxLen∧(0 < vs.length→a=some ⟨b,off,none⟩)∧Hid (∀j u,vs[j]? = some u→w.cell? ⟨b,off+j,none⟩=some u):=h
theorem flat_stepB (ls:List (List Int)) (k:Nat) (l:List Int) (h:ls[k]? = some l):(ls.take (k+1)).flatten=(ls.take k).flatten ++ l:=by
 rw [List.take_add_one,h];simp
theorem flat_bdB (ls:List (List Int)) (k:Nat):(ls.take k).flatten.length≤ls.flatten.length:=by
 have h:ls.flatten=(ls.take k).flatten ++ (ls.drop k).flatten:=by rw [←List.flatten_append,List.take_append_drop]
 rw [h,List.length_append];omega
set_option maxRecDepth 100000 in
set_option maxHeartbeats 1000000 in
theorem slicesConcatB (v:Value) (vs:List Value) (ls:List (List Int)) (w:World) (hv:Rd w v vs) (hln:vs.length=ls.length) (hvl:vs.length≤1000000)
  (hd:Hid (∀(i:Nat) (u:Value) (l:List Int),vs[i]? = some u→ls[i]? = some l→Rd w u (l.map (Value.int .u8)))) (hl:ls.flatten.length≤1000000000) :
  Calls Tryz.prog 33 #[v] w (MadeRow 5 w (ls.flatten.map (Value.int .u8))):=by
 obtain ⟨a,cap,b,off,rfl,hcap,hm,ha,hc⟩:=slotsB hv
 clear hv
 go_enter Tryz.func33,Tryz.ntmps33
 go_wp2
 go_loop [3,11] (fun s i=>∃k:Nat,k≤vs.length∧i = .int .i64 k∧s = .int .i64 ((ls.take k).flatten.length:Nat)) (fun _ i=>vs.length - (intOf i).toNat)
 case atStart=>exact ⟨0,by omega,rfl,by simp⟩
 case round=>
  obtain ⟨k,hk,rfl,rfl⟩:=hrel
  by_cases hlt:k < vs.length
  ·obtain ⟨y,hy⟩:=ints_get vs k (by omega)
   obtain ⟨l,hl'⟩:=ints_get ls k (by omega)
   have c0:=hc.out k y hy
   obtain ⟨a2,cap2,b2,off2,rfl,-⟩:=hd.out k y l hy hl'
   rw [List.length_map] at *
   obtain rfl:=ha (by omega)
   have F:=Lib.hid (flat_stepB ls k l hl')
   have B:=flat_bdB ls (k+1)
   rw [F.out,List.length_append] at B
   clear hy hl' ha hc hd
   generalize (ls.take k).flatten=tk at *
   go_wp2
   go_round
   case rel=>exact ⟨k+1,by omega,by go_num,by rw [F.out,List.length_append];go_num⟩
   case measure=>simp [intOf];omega
  ·have e:ls.take k=ls:=List.take_of_length_le (by omega)
   rw [e]
   obtain ⟨N,hN⟩:∃N:Nat,ls.flatten.length=N:=⟨_,rfl⟩
   have HN:=Lib.hid hN
   rw [hN]
   have hl2:N≤1000000000:=by omega
   clear hN e
   go_wp2_with (go_at_call 65;refine (slicesGrowB N _ hl2).mono ?_;rintro e w1 ⟨v1,rfl,ho1,hb1⟩)
   go_loopw [6,27] (fun o i wr=>∃k:Nat,k≤vs.length∧i = .int .i64 k∧Own w.heap.size 5 wr o ((ls.take k).flatten.map (Value.int .u8))∧Below w.heap.size w wr) (fun _ i _=>vs.length - (intOf i).toNat)
   case atStart=>exact ⟨0,by omega,rfl,by simpa using ho1,hb1⟩
   case round=>
    obtain ⟨k,hk,rfl,hown,hb⟩:=hrel
    have HB:=Hid.mk hb
    clear hb
    have hb2:=HB.out.size
    by_cases hlt:k < vs.length
    ·obtain ⟨y,hy⟩:=ints_get vs k (by omega)
     obtain ⟨l,hl'⟩:=ints_get ls k (by omega)
     have c0:=below_cell HB.out (hc.out k y hy)
     have D:=Lib.hid (Rd.below (hd.out k y l hy hl') HB.out)
     have hbl:=World.block_lt_of_cell? _ _ c0
     obtain ⟨a2,cap2,b2,off2,rfl,-⟩:=D.out
     rw [List.length_map] at *
     obtain rfl:=ha (by omega)
     have F:=Lib.hid (flat_stepB ls k l hl')
     have B:=flat_bdB ls (k+1)
     rw [F.out,List.length_append] at B
     clear hy hl' ha hc hd
     go_wp2_with (at_builtin;refine wp_appendR (.tmp 31) (.tmp 32) 26 5 1 _ (elemByte) rfl rfl Tryz.underlying26 w.heap.size _ _ _ _ rfl hown rfl D.out (oneCells _ _) (by simp only [List.length_map,maxLen];omega) (by simp only [List.length_map];omega) hb2 ?_;intro v' w' hown' hb')
     go_roundw
     case rel=>exact ⟨k+1,by omega,by go_num,by rw [F.out,List.map_append];exact hown',HB.out.trans hb'⟩
     case measure=>simp [intOf];omega
    ·have e:ls.take k=ls:=List.take_of_length_le (by omega)
     rw [e] at hown
     clear hc hd ha
     go_wp2
     go_ret
     exact ⟨_,rfl,hown,HB.out⟩
end
end Go.Proofs.YtmeekbjhpidcgaaGreatDoor
