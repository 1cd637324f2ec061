/- Out of: Wire3, Wire4, Wire5, AttrM. -/
import Derived.Test.YtoamkpgaaanafaaGreatK1
import Derived.Test.YtoamkpgaaanafaaGreatK2
namespace Go.Proofs.YtoamkpgaaanafaaGreat
set_option linter.unusedSimpArgs false
set_option linter.unusedVariables false
set_option linter.unnecessarySimpa false
section
open Go.RowKit
set_option maxRecDepth 100000 in
set_option maxHeartbeats 1000000 in
theorem refGetInt (v:Value) (bs:List Int) (w:World) (hv:Bytes w v bs) (hby:Byte bs):Calls Tryz.prog 208 #[v] w (Ret3 w (getI bs)):=by
 obtain ⟨a,cap,b,off,rfl,hcap,hm,ha,hc⟩:=hv.open
 unfold maxLen at hm
 have HBY:=Hid.mk hby
 clear hby
 go_enter Tryz.func208,Tryz.ntmps208
 go_wp2
 go_loop [5] (fun i=>∃(k:Nat),k≤10∧k≤bs.length∧i = .int .i64 k∧Hid (∀(j:Nat) (c:Int),j < k→bs[j]? = some c→128≤c)) (fun i=>bs.length - (intOf i).toNat)
 case atStart=>exact ⟨0,by omega,by omega,rfl,fun j c h=>absurd h (by omega)⟩
 case round=>
  obtain ⟨k,hk10,hk,rfl,hall⟩:=hrel
  by_cases g1:k < bs.length
  ·obtain ⟨c,hcc⟩:=ints_get bs k g1
   have c1:=hc.out k c hcc
   obtain ⟨y1,y2⟩:=HBY.out k c hcc
   obtain rfl:=ha (by omega)
   by_cases g2:k < 10
   ·by_cases g3:128≤c
    ·have N:Hid (∀(j:Nat) (c:Int),j < k+1→bs[j]? = some c→128≤c):=by
      intro j d hj hd
      by_cases e:j=k
      ·subst e;rw [hcc] at hd;cases hd;exact g3
      ·exact hall.out j d (by omega) hd
     clear hcc ha
     go_wp2
     go_round
     case rel=>exact ⟨k+1,by omega,by omega,by go_num,N⟩
     case measure=>simp [intOf];omega
    ·have g3' : decide (128≤c)=false:=by simpa using g3
     have gk10:((k:Int) == 10)=false:=by simp;omega
     have gkl:((k:Int) == (bs.length:Int))=false:=by simp;omega
     by_cases bad:(k=9∧1 < c)∨(0 < k∧c=0)
     ·have B:=Hid.mk (getI_bad bs k c (by omega) hall.out hcc bad)
      clear hcc ha
      rcases bad with ⟨rfl,bad⟩|⟨bad,rfl⟩
      ·go_wp2
       go_ret3
       exact Ret3.mk B.out (Still.refl _)
      ·have b1:decide ((1:Int) < 0)=false:=rfl
       cases g9:((k:Int) == 9)
       all_goals
        go_wp2
        go_ret3
        exact Ret3.mk B.out (Still.refl _)
     ·have GD:=Hid.mk (getI_good bs k c (by omega) hall.out hcc bad (by omega))
      have FITS:Hid (∀i,i≤k+1→0≤val ((bs.take (k+1)).drop i)∧val ((bs.take (k+1)).drop i) < 18446744073709551616):=fun i hi=>val_fits bs k i c hcc (by omega) hi (by omega) y1
      have d1:Hid (((k:Int) == 9)=true→decide (1 < c)=false):=fun h=>by simp at h ⊢; omega
      have d2:Hid (decide (0 < k)=true→(c == 0)=false):=fun h=>by simp at h ⊢; omega
      have V0:Hid (val ((bs.take (k+1)).drop (k+1))=0):=by rw [Hid,List.drop_eq_nil_of_le (by simp;omega)];rfl
      clear hcc ha bad
      cases g9:((k:Int) == 9)
      all_goals cases gk:decide (0 < k)
      all_goals try have d1':=d1.out g9
      all_goals try have d2':=d2.out gk
      all_goals clear d1 d2
      all_goals
       go_wp2
       go_loop [6,7] (fun z i=>∃(m:Nat),m≤k+1∧i = .int .i64 ((m:Int) - 1)∧z = .int .u64 (val ((bs.take (k+1)).drop m))) (fun _ i=>(intOf i+1).toNat)
       case atStart=>exact ⟨k+1,by omega,by go_num,by rw [V0.out]⟩
       case round=>
        obtain ⟨m,hm1,rfl,rfl⟩:=hrel
        obtain ⟨f1,f2⟩:=FITS.out m hm1
        by_cases gm:0 < m
        ·obtain ⟨d,hd⟩:=ints_get bs (m-1) (by omega)
         have c2:=hc.out (m-1) d hd
         obtain ⟨y3,y4⟩:=HBY.out (m-1) d hd
         obtain ⟨f3,f4⟩:=FITS.out (m-1) (by omega)
         have VS:=Hid.mk (val_step bs k (m-1) d (by omega) hd)
         rw [show m - 1+1=m by omega] at VS
         have vb:val ((bs.take (k+1)).drop m) * 128+d % 128 < 18446744073709551616:=by rw [VS.out] at f4;omega
         clear hd f3 f4
         go_wp2
         go_round
         case rel=>exact ⟨m - 1,by omega,by go_num,by rw [VS.out];go_num⟩
         case measure=>simp [intOf];omega
        ·obtain rfl:m=0:=by omega
         have e0:(bs.take (k+1)).drop 0=bs.take (k+1):=rfl
         rw [e0] at f1 f2 ⊢
         clear e0
         have GD':=GD
         generalize val (bs.take (k+1))=z' at f1 f2 GD' ⊢
         by_cases gz:z' % 2=1
         ·have gz' : (z' % 2 == 1)=true:=by simpa using gz
          go_wp2
          all_goals go_ret3
          all_goals refine Ret3.mk ?_ (Still.refl _)
          all_goals rw [GD'.out]
          all_goals congr 1
          all_goals unfold unzig
          all_goals split<;>omega
         have gz' : (z' % 2 == 1)=false:=by simpa using gz
         go_wp2
         all_goals go_ret3
         all_goals refine Ret3.mk ?_ (Still.refl _)
         all_goals rw [GD'.out]
         all_goals congr 1
         all_goals unfold unzig
         all_goals split<;>omega
   ·have hk' : k=10:=by omega
    obtain rfl:=hk'
    have B:=Hid.mk (getI_ten bs hall.out hk)
    clear hcc ha
    go_wp2
    go_ret3
    exact Ret3.mk B.out (Still.refl _)
  ·by_cases g10:k=10
   ·obtain rfl:=g10
    have B:=Hid.mk (getI_ten bs hall.out hk)
    go_wp2
    go_ret3
    exact Ret3.mk B.out (Still.refl _)
   ·have gk10:((k:Int) == 10)=false:=by simp;omega
    have gkl:((k:Int) == (bs.length:Int))=true:=by simp;omega
    have B:=Hid.mk (getI_short bs k (by omega) hall.out (by omega))
    go_wp2
    go_ret3
    exact Ret3.mk B.out (Still.refl _)
theorem Byte.all {bs:List Int} (h:Byte bs):∀c∈bs,0≤c∧c < 256:=by
 intro c hc
 obtain ⟨k,hk⟩:=List.getElem?_of_mem hc
 exact h k c hk
set_option maxRecDepth 100000 in
set_option maxHeartbeats 1000000 in
theorem wireLength (v:Value) (bs:List Int) (least:Int) (w:World) (hv:Bytes w v bs) (hby:Byte bs) (hl:1≤least) (hl2:least≤1000):Calls Tryz.prog 253 #[v, .int .i64 least] w (Ret3 w (lenL bs least)):=by
 obtain ⟨a,cap,b,off,hvv,hcap,hm,-⟩:=hv.open
 unfold maxLen at hm
 have ok:=Hid.mk (getI_ok bs hby.all)
 obtain ⟨n,u,er,hr⟩:∃n u er,getI bs=(n,u,er):=⟨_,_,_,rfl⟩
 have L:Hid (lenL bs least=if er≠0 then (0,0,er) else if n < 0 then (0,0,11) else if (bs.length - u) / least < n then (0,0,10) else (n,u,0)):=by
  rw [Hid,lenL,hr]
 have HR:=Hid.mk hr
 rw [hr] at ok
 clear hr
 subst hvv
 by_cases g:er=0
 ·obtain rfl:=g
  obtain ⟨o1,o2,o3,o4⟩:=ok.out rfl
  simp only at o1 o2 o3 o4
  by_cases g1:n < 0
  ·have L2:Hid (lenL bs least=(0,0,11)):=by rw [Hid,L.out,if_neg (by simp),if_pos g1]
   go_enter Tryz.func253,Tryz.ntmps253
   go_wp2_with (go_at_call 204;refine (wireGetInt _ bs _ hv hby).mono ?_;rintro e w' ⟨rfl,k,rfl⟩;rw [HR.out])
   go_ret3
   exact Ret3.mk L2.out (Still.one _ _)
  ·by_cases g2:(bs.length - u) / least < n
   ·have L2:Hid (lenL bs least=(0,0,10)):=by rw [Hid,L.out,if_neg (by simp),if_neg g1,if_pos g2]
    go_enter Tryz.func253,Tryz.ntmps253
    go_wp2_with (go_at_call 204;refine (wireGetInt _ bs _ hv hby).mono ?_;rintro e w' ⟨rfl,k,rfl⟩;rw [HR.out])
    go_ret3
    exact Ret3.mk L2.out (Still.one _ _)
   ·have L2:Hid (lenL bs least=(n,u,0)):=by rw [Hid,L.out,if_neg (by simp),if_neg g1,if_neg g2]
    go_enter Tryz.func253,Tryz.ntmps253
    go_wp2_with (go_at_call 204;refine (wireGetInt _ bs _ hv hby).mono ?_;rintro e w' ⟨rfl,k,rfl⟩;rw [HR.out])
    go_ret3
    exact Ret3.mk L2.out (Still.one _ _)
 ·have g' : (er == 0)=false:=by simpa using g
  have L2:Hid (lenL bs least=(0,0,er)):=by rw [Hid,L.out,if_pos g]
  go_enter Tryz.func253,Tryz.ntmps253
  go_wp2_with (go_at_call 204;refine (wireGetInt _ bs _ hv hby).mono ?_;rintro e w' ⟨rfl,k,rfl⟩;rw [HR.out])
  go_ret3
  exact Ret3.mk L2.out (Still.one _ _)
set_option maxRecDepth 100000 in
set_option maxHeartbeats 1000000 in
theorem refLength (v:Value) (bs:List Int) (least:Int) (w:World) (hv:Bytes w v bs) (hby:Byte bs) (hl:1≤least) (hl2:least≤1000):Calls Tryz.prog 207 #[v, .int .i64 least] w (Ret3 w (lenL bs least)):=by
 obtain ⟨a,cap,b,off,hvv,hcap,hm,-⟩:=hv.open
 unfold maxLen at hm
 have ok:=Hid.mk (getI_ok bs hby.all)
 obtain ⟨n,u,er,hr⟩:∃n u er,getI bs=(n,u,er):=⟨_,_,_,rfl⟩
 have L:Hid (lenL bs least=if er≠0 then (0,0,er) else if n < 0 then (0,0,11) else if (bs.length - u) / least < n then (0,0,10) else (n,u,0)):=by
  rw [Hid,lenL,hr]
 have HR:=Hid.mk hr
 rw [hr] at ok
 clear hr
 subst hvv
 by_cases g:er=0
 ·obtain rfl:=g
  obtain ⟨o1,o2,o3,o4⟩:=ok.out rfl
  simp only at o1 o2 o3 o4
  by_cases g1:n < 0
  ·have L2:Hid (lenL bs least=(0,0,11)):=by rw [Hid,L.out,if_neg (by simp),if_pos g1]
   go_enter Tryz.func207,Tryz.ntmps207
   go_wp2_with (go_at_call 208;refine (refGetInt _ bs _ hv hby).mono ?_;rintro e w' ⟨rfl,k,rfl⟩;rw [HR.out])
   go_ret3
   exact Ret3.mk L2.out (Still.one _ _)
  ·by_cases g2:(bs.length - u) / least < n
   ·have L2:Hid (lenL bs least=(0,0,10)):=by rw [Hid,L.out,if_neg (by simp),if_neg g1,if_pos g2]
    go_enter Tryz.func207,Tryz.ntmps207
    go_wp2_with (go_at_call 208;refine (refGetInt _ bs _ hv hby).mono ?_;rintro e w' ⟨rfl,k,rfl⟩;rw [HR.out])
    go_ret3
    exact Ret3.mk L2.out (Still.one _ _)
   ·have L2:Hid (lenL bs least=(n,u,0)):=by rw [Hid,L.out,if_neg (by simp),if_neg g1,if_neg g2]
    go_enter Tryz.func207,Tryz.ntmps207
    go_wp2_with (go_at_call 208;refine (refGetInt _ bs _ hv hby).mono ?_;rintro e w' ⟨rfl,k,rfl⟩;rw [HR.out])
    go_ret3
    exact Ret3.mk L2.out (Still.one _ _)
 ·have g' : (er == 0)=false:=by simpa using g
  have L2:Hid (lenL bs least=(0,0,er)):=by rw [Hid,L.out,if_pos g]
  go_enter Tryz.func207,Tryz.ntmps207
  go_wp2_with (go_at_call 208;refine (refGetInt _ bs _ hv hby).mono ?_;rintro e w' ⟨rfl,k,rfl⟩;rw [HR.out])
  go_ret3
  exact Ret3.mk L2.out (Still.one _ _)
def Fit (l:List Int):Prop:=∀z∈l,-9223372036854775808≤z∧z≤9223372036854775807
theorem oneCells (k:IntKind) (l:List Int):∀c∈l.map (Value.int k),c.oneCell' = true:=by
 intro c hc
 obtain ⟨_,_,rfl⟩:=List.mem_map.1 hc
 rfl
set_option maxRecDepth 100000 in
set_option maxHeartbeats 1000000 in
theorem wireList (v:Value) (zs:List Int) (w:World) (hv:Ints w v zs) (hf:Fit zs) (hl:zs.length≤1000000000):Calls Tryz.prog 199 #[v, .func (.func 200) #[] #[]] w (MadeBytes w (intsB zs)):=by
 obtain ⟨a,cap,b,off,rfl,hcap,hm,ha,hc⟩:=hv.open
 have HF:=Hid.mk hf
 have hl0:=intB_len zs.length (by omega) (by omega)
 go_enter Tryz.func199,Tryz.ntmps199
 go_wp2_with (go_at_call 200;refine (wireInt _ _ (by omega) (by omega)).mono ?_;rintro e w1 ⟨v1,rfl,ho1,hb1⟩)
 go_loopw [5,13] (fun o i wr=>∃k:Nat,k≤zs.length∧i = .int .i64 k∧Own w.heap.size 5 wr o ((intB zs.length ++ ((zs.take k).map intB).flatten).map (Value.int .u8))∧Below w.heap.size w wr) (fun _ i _=>zs.length - (intOf i).toNat)
 case atStart=>exact ⟨0,by omega,rfl,by simpa using ho1,hb1⟩
 case round=>
  obtain ⟨k,hk,rfl,hown,hb⟩:=hrel
  have HB:=Hid.mk hb
  clear hb
  have hb2:=HB.out.size
  by_cases hlt:k < zs.length
  ·obtain ⟨y,hy⟩:=ints_get zs k hlt
   have c1:=below_cell HB.out (hc.out k y hy)
   obtain ⟨y1,y2⟩:=HF.out y (List.mem_of_getElem? hy)
   have hl1:=intB_len y y1 y2
   have hl2:=flat_len (zs.take k) (fun z hz=>HF.out z (List.mem_of_mem_take hz))
   have hl3:(zs.take k).length≤zs.length:=by rw [List.length_take];omega
   obtain rfl:=ha (by omega)
   have T:=Hid.mk (flat_take zs k y hy)
   clear ha hy
   go_wp2_with (first|(at_builtin;refine wp_append (.tmp 17) (.tmp 20) 92 5 1 _ elemByte rfl rfl Tryz.underlying92 w.heap.size _ _ _ _ rfl (hown.kept hb3) rfl ho3.rd (by simp only [List.length_map];omega) (oneCells _ _) (by simp only [List.length_map,List.length_append,maxLen];omega) (by simp only [List.length_map,List.length_append];omega) (by have:=hb3.size;omega) ?_;intro v' w' hown' hb')|(go_at_call 200;refine (wireInt _ _ y1 y2).mono ?_;rintro e w3 ⟨v3,rfl,ho3,hb3⟩))
   go_roundw
   case rel=>exact ⟨k+1,by omega,by go_num,by rw [T.out,←List.append_assoc,List.map_append];exact hown',(HB.out.trans (hb3.mono hb2)).trans hb'⟩
   case measure=>simp [intOf];omega
  ·have e:zs.take k=zs:=List.take_of_length_le (by omega)
   rw [e] at hown
   go_wp2
   go_ret
   exact ⟨_,rfl,hown,HB.out⟩
theorem wireInts (v:Value) (zs:List Int) (w:World) (hv:Ints w v zs) (hf:Fit zs) (hl:zs.length≤1000000000):Calls Tryz.prog 117 #[v] w (MadeBytes w (intsB zs)):=by
 go_enter Tryz.func117,Tryz.ntmps117
 go_wp2_with (go_at_call 199;refine (wireList _ zs _ hv hf hl).mono ?_;rintro e w1 ⟨v1,rfl,ho1,hb1⟩)
 go_ret
 exact ⟨_,rfl,ho1,hb1⟩
set_option maxRecDepth 100000 in
set_option maxHeartbeats 1000000 in
theorem refInts (v:Value) (zs:List Int) (w:World) (hv:Ints w v zs) (hf:Fit zs) (hl:zs.length≤1000000000):Calls Tryz.prog 128 #[v] w (MadeBytes w (intsB zs)):=by
 obtain ⟨a,cap,b,off,rfl,hcap,hm,ha,hc⟩:=hv.open
 have HF:=Hid.mk hf
 have hl0:=intB_len zs.length (by omega) (by omega)
 go_enter Tryz.func128,Tryz.ntmps128
 go_wp2_with (go_at_call 211;refine (refInt _ _ (by omega) (by omega)).mono ?_;rintro e w1 ⟨v1,rfl,ho1,hb1⟩)
 go_loopw [3,4] (fun o i wr=>∃k:Nat,k≤zs.length∧i = .int .i64 k∧Own w.heap.size 5 wr o ((intB zs.length ++ ((zs.take k).map intB).flatten).map (Value.int .u8))∧Below w.heap.size w wr) (fun _ i _=>zs.length - (intOf i).toNat)
 case atStart=>exact ⟨0,by omega,rfl,by simpa using ho1,hb1⟩
 case round=>
  obtain ⟨k,hk,rfl,hown,hb⟩:=hrel
  have HB:=Hid.mk hb
  clear hb
  have hb2:=HB.out.size
  by_cases hlt:k < zs.length
  ·obtain ⟨y,hy⟩:=ints_get zs k hlt
   have c1:=below_cell HB.out (hc.out k y hy)
   obtain ⟨y1,y2⟩:=HF.out y (List.mem_of_getElem? hy)
   have hl1:=intB_len y y1 y2
   have hl2:=flat_len (zs.take k) (fun z hz=>HF.out z (List.mem_of_mem_take hz))
   have hl3:(zs.take k).length≤zs.length:=by rw [List.length_take];omega
   obtain rfl:=ha (by omega)
   have T:=Hid.mk (flat_take zs k y hy)
   clear ha hy
   go_wp2_with (first|(at_builtin;refine wp_append (.tmp 14) (.tmp 19) 92 5 1 _ elemByte rfl rfl Tryz.underlying92 w.heap.size _ _ _ _ rfl (hown.kept hb3) rfl ho3.rd (by simp only [List.length_map];omega) (oneCells _ _) (by simp only [List.length_map,List.length_append,maxLen];omega) (by simp only [List.length_map,List.length_append];omega) (by have:=hb3.size;omega) ?_;intro v' w' hown' hb')|(go_at_call 211;refine (refInt _ _ y1 y2).mono ?_;rintro e w3 ⟨v3,rfl,ho3,hb3⟩))
   go_roundw
   case rel=>exact ⟨k+1,by omega,by go_num,by rw [T.out,←List.append_assoc,List.map_append];exact hown',(HB.out.trans (hb3.mono hb2)).trans hb'⟩
   case measure=>simp [intOf];omega
  ·have e:zs.take k=zs:=List.take_of_length_le (by omega)
   rw [e] at hown
   go_wp2
   go_ret
   exact ⟨_,rfl,hown,HB.out⟩
def MadeIntsN (w:World) (r:List Int×Int×Int) (e:Ending) (w' : World):Prop:=
 ∃v,e = .returned (.tuple #[v, .int .i64 r.2.1, .int .i64 r.2.2])∧Own w.heap.size 3 w' v (r.1.map (Value.int .i64))∧Below w.heap.size w w'
theorem MadeIntsN.mk {w w' : World} {r:List Int×Int×Int} {l:List Int} {x y:Int} {v:Value} (h:r=(l,x,y)) (ho:Own w.heap.size 3 w' v (l.map (Value.int .i64))) (hb:Below w.heap.size w w') :
  MadeIntsN w r (.returned (.tuple #[v, .int .i64 x, .int .i64 y])) w':=by
 subst h;exact ⟨v,rfl,ho,hb⟩
theorem Bytes.dropAt {w:World} {bs:List Int} {cap b off m:Nat} (hcap:bs.length≤cap) (hm:cap≤maxLen) (hc:∀(j:Nat) (x:Int),bs[j]? = some x→w.cell? ⟨b,off+j,none⟩=some (.int .u8 x)) (hle:m≤bs.length) :
  Bytes w (.slice (some ⟨b,off+m,none⟩) (bs.length - m) (cap - m)) (bs.drop m):=by
 refine ⟨_,cap - m,b,off+m,by simp,by simp;omega,by omega,fun _=>rfl,fun j u hu=>?_⟩
 rw [List.getElem?_map,List.getElem?_drop] at hu
 obtain ⟨x,hx,rfl⟩:=Option.map_eq_some_iff.1 hu
 rw [Nat.add_assoc];exact hc _ _ hx
theorem Bytes.dropEnd {w:World} {bs:List Int} {a:Option Addr} {c m:Nat} (hm:m=bs.length) (hc:c≤maxLen) :
  Bytes w (.slice a 0 c) (bs.drop m):=by
 subst hm
 rw [List.drop_length]
 exact ⟨a,c,0,0,rfl,by simp,hc,fun h=>by simp at h,fun j u hu=>by simp at hu⟩
theorem Byte.drop {bs:List Int} (h:Byte bs) (m:Nat):Byte (bs.drop m):=fun k c hk=>h (m+k) c (by rw [←List.getElem?_drop];exact hk)
set_option maxRecDepth 100000 in
set_option maxHeartbeats 1000000 in
theorem wireGet (v:Value) (bs:List Int) (w:World) (hv:Bytes w v bs) (hby:Byte bs) (hl:bs.length≤1000000000):Calls Tryz.prog 203 #[v, .int .i64 1, .func (.func 204) #[] #[]] w (MadeIntsN w (getInts bs)):=by
 obtain ⟨a,cap,b,off,hvv,hcap,hm,ha,hc⟩:=hv.open
 have ok:=Hid.mk (lenL_ok bs 1 hby.all)
 obtain ⟨n,u,er,hr⟩:∃n u er,lenL bs 1=(n,u,er):=⟨_,_,_,rfl⟩
 have L:Hid (getInts bs=if er≠0 then ([],0,er) else andThen [] u (getN n.toNat (bs.drop u.toNat))):=by
  rw [Hid,getInts,hr]
 have HR:=Hid.mk hr
 rw [hr] at ok
 clear hr
 subst hvv
 by_cases g:er=0
 ·obtain rfl:=g
  obtain ⟨o1,o2,o3,o4⟩:=ok.out rfl
  simp only [Int.ediv_one] at o1 o2 o3 o4
  obtain ⟨N,rfl⟩:∃N:Nat,n=N:=⟨n.toNat,by omega⟩
  obtain ⟨U,rfl⟩:∃N:Nat,u=N:=⟨u.toNat,by omega⟩
  have L2:Hid (getInts bs=andThen [] U (getN N (bs.drop U))):=by rw [Hid,L.out,if_neg (by simp)];rfl
  obtain rfl:=ha (by omega)
  clear ha L ok
  go_enter Tryz.func203,Tryz.ntmps203
  go_wp2_with (go_at_call 253;refine (wireLength _ bs _ _ hv hby (by omega) (by omega)).mono ?_;rintro e w' ⟨rfl,k,rfl⟩;rw [HR.out])
  go_loopw [10,12,27] (fun p o i wr=>∃(j m:Nat) (out:List Int),j≤N∧U≤m∧m≤bs.length∧out.length=j∧i = .int .i64 j∧p = .int .i64 m∧Own w.heap.size 3 wr o (out.map (Value.int .i64))∧Below w.heap.size w wr∧Hid (getInts bs=andThen out m (getN (N - j) (bs.drop m)))) (fun _ _ i _=>N - (intOf i).toNat)
  case atStart=>exact ⟨0,U,[],by omega,by omega,by omega,rfl,rfl,rfl,Own.nil _ _ _,(Still.one _ _).below _,L2⟩
  case round=>
   obtain ⟨j,m,out,hj,hUm,hmb,ho,rfl,rfl,hown,hb,hh⟩:=hrel
   have HB:=Hid.mk hb
   have hb2:=hb.size
   have HO:=Hid.mk ho
   clear hb ho
   by_cases hlt:j < N
   ·have hv' : Bytes wr (.slice (some (if cap=m then ⟨b,off,none⟩ else ⟨b,off+m,none⟩)) (bs.length - m) (cap - m)) (bs.drop m):=by
     split
     ·rw [show bs.length - m=0 by omega];exact Bytes.dropEnd (by omega) (by omega)
     ·exact Bytes.dropAt hcap hm (fun j x hx=>below_cell HB.out (hc.out j x hx)) hmb
    have ok:=Hid.mk (getI_ok (bs.drop m) (hby.drop m).all)
    obtain ⟨x,us,e2,hr2⟩:∃x us e2,getI (bs.drop m)=(x,us,e2):=⟨_,_,_,rfl⟩
    have HV:=Hid.mk hv'
    have HR2:=Hid.mk hr2
    have NX:Hid (N - j=(N - (j+1))+1):=by rw [Hid];omega
    rw [hr2] at ok
    clear hr2 hv'
    by_cases g2:e2=0
    ·obtain rfl:=g2
     obtain ⟨p1,p2,p3,p4⟩:=ok.out rfl
     simp only [List.length_drop] at p1 p2 p3 p4
     obtain ⟨us,rfl⟩:∃N:Nat,us=N:=⟨us.toNat,by omega⟩
     have ST:Hid (getInts bs=andThen (out ++ [x]) (m+us) (getN (N - (j+1)) (bs.drop (m+us)))):=by
      rw [Hid,hh.out,NX.out,andThen_step out m _ _ _ HR2.out rfl];simp
     have LO:out.length≤N:=by rw [HO.out];omega
     clear ok hh NX
     have ec:¬cap=m:=by omega
     all_goals have HV':=HV.out
     all_goals first|rw [if_pos ec] at HV' | rw [if_neg ec] at HV'
     all_goals have HVV:=Hid.mk HV'
     all_goals clear HV'
     all_goals
      go_wp2_with (first|(at_builtin;refine wp_push (.tmp 41) (.tmp 43) 27 _ 3 8 _ elemInt rfl rfl Tryz.underlying27 w.heap.size _ (.int .i64 x) _ rfl hown.drewN rfl rfl (by simp [maxLen];omega) (by simp;omega) hb2 ?_;intro v' w' hown' hb')|(go_at_call 204;refine (wireGetInt _ (bs.drop m) _ (by first|exact HVV.out|(have h:=HVV.out;simp [ec] at h ⊢; exact h)) (hby.drop m)).mono ?_;rintro e w' ⟨rfl,q,rfl⟩;rw [HR2.out]))
      go_roundw
      case rel=>exact ⟨j+1,m+us,out ++ [x],by omega,by omega,by omega,by simp [HO.out],by go_num,by go_num,by simpa using hown',(HB.out.trans ((Still.one _ _).below _)).trans hb',ST⟩
      case measure=>simp [intOf];omega
    ·have g2' : (e2 == 0)=false:=by simpa using g2
     have ST:Hid (getInts bs=([],0,e2)):=by
      rw [Hid,hh.out,NX.out,andThen_err out m _ _ _ HR2.out g2]
     clear ok hh NX
     by_cases ec:cap=m
     all_goals have HV':=HV.out
     all_goals first|rw [if_pos ec] at HV' | rw [if_neg ec] at HV'
     all_goals have HVV:=Hid.mk HV'
     all_goals clear HV'
     all_goals
      go_wp2_with (go_at_call 204;refine (wireGetInt _ (bs.drop m) _ (by first|exact HVV.out|(have h:=HVV.out;simp [ec] at h ⊢; exact h)) (hby.drop m)).mono ?_;rintro e w' ⟨rfl,q,rfl⟩;rw [HR2.out])
      go_ret3
      exact MadeIntsN.mk ST.out (Own.nil _ _ _) (HB.out.trans ((Still.one _ _).below _))
   ·have DN:Hid (getInts bs=(out,(m:Int),0)):=by
     rw [Hid,hh.out,show N - j=0 by omega,andThen_done]
    go_wp2
    go_ret3
    exact MadeIntsN.mk DN.out hown HB.out
 ·have g' : (er == 0)=false:=by simpa using g
  have L2:Hid (getInts bs=([],0,er)):=by rw [Hid,L.out,if_pos g]
  go_enter Tryz.func203,Tryz.ntmps203
  go_wp2_with (go_at_call 253;refine (wireLength _ bs _ _ hv hby (by omega) (by omega)).mono ?_;rintro e w' ⟨rfl,k,rfl⟩;rw [HR.out])
  go_ret3
  exact MadeIntsN.mk L2.out (Own.nil _ _ _) ((Still.one _ _).below _)
set_option maxRecDepth 100000 in
set_option maxHeartbeats 1000000 in
theorem refGetInts (v:Value) (bs:List Int) (w:World) (hv:Bytes w v bs) (hby:Byte bs) (hl:bs.length≤1000000000):Calls Tryz.prog 125 #[v] w (MadeIntsN w (getInts bs)):=by
 obtain ⟨a,cap,b,off,hvv,hcap,hm,ha,hc⟩:=hv.open
 have ok:=Hid.mk (lenL_ok bs 1 hby.all)
 obtain ⟨n,u,er,hr⟩:∃n u er,lenL bs 1=(n,u,er):=⟨_,_,_,rfl⟩
 have L:Hid (getInts bs=if er≠0 then ([],0,er) else andThen [] u (getN n.toNat (bs.drop u.toNat))):=by
  rw [Hid,getInts,hr]
 have HR:=Hid.mk hr
 rw [hr] at ok
 clear hr
 subst hvv
 by_cases g:er=0
 ·obtain rfl:=g
  obtain ⟨o1,o2,o3,o4⟩:=ok.out rfl
  simp only [Int.ediv_one] at o1 o2 o3 o4
  obtain ⟨N,rfl⟩:∃N:Nat,n=N:=⟨n.toNat,by omega⟩
  obtain ⟨U,rfl⟩:∃N:Nat,u=N:=⟨u.toNat,by omega⟩
  have L2:Hid (getInts bs=andThen [] U (getN N (bs.drop U))):=by rw [Hid,L.out,if_neg (by simp)];rfl
  obtain rfl:=ha (by omega)
  clear ha L ok
  go_enter Tryz.func125,Tryz.ntmps125
  go_wp2_with (go_at_call 207;refine (refLength _ bs _ _ hv hby (by omega) (by omega)).mono ?_;rintro e w' ⟨rfl,k,rfl⟩;rw [HR.out])
  go_loopw [6,8,9] (fun p o i wr=>∃(j m:Nat) (out:List Int),j≤N∧U≤m∧m≤bs.length∧out.length=j∧i = .int .i64 j∧p = .int .i64 m∧Own w.heap.size 3 wr o (out.map (Value.int .i64))∧Below w.heap.size w wr∧Hid (getInts bs=andThen out m (getN (N - j) (bs.drop m)))) (fun _ _ i _=>N - (intOf i).toNat)
  case atStart=>exact ⟨0,U,[],by omega,by omega,by omega,rfl,rfl,rfl,Own.nil _ _ _,(Still.one _ _).below _,L2⟩
  case round=>
   obtain ⟨j,m,out,hj,hUm,hmb,ho,rfl,rfl,hown,hb,hh⟩:=hrel
   have HB:=Hid.mk hb
   have hb2:=hb.size
   have HO:=Hid.mk ho
   clear hb ho
   by_cases hlt:j < N
   ·have hv' : Bytes wr (.slice (some (if cap=m then ⟨b,off,none⟩ else ⟨b,off+m,none⟩)) (bs.length - m) (cap - m)) (bs.drop m):=by
     split
     ·rw [show bs.length - m=0 by omega];exact Bytes.dropEnd (by omega) (by omega)
     ·exact Bytes.dropAt hcap hm (fun j x hx=>below_cell HB.out (hc.out j x hx)) hmb
    have ok:=Hid.mk (getI_ok (bs.drop m) (hby.drop m).all)
    obtain ⟨x,us,e2,hr2⟩:∃x us e2,getI (bs.drop m)=(x,us,e2):=⟨_,_,_,rfl⟩
    have HV:=Hid.mk hv'
    have HR2:=Hid.mk hr2
    have NX:Hid (N - j=(N - (j+1))+1):=by rw [Hid];omega
    rw [hr2] at ok
    clear hr2 hv'
    by_cases g2:e2=0
    ·obtain rfl:=g2
     obtain ⟨p1,p2,p3,p4⟩:=ok.out rfl
     simp only [List.length_drop] at p1 p2 p3 p4
     obtain ⟨us,rfl⟩:∃N:Nat,us=N:=⟨us.toNat,by omega⟩
     have ST:Hid (getInts bs=andThen (out ++ [x]) (m+us) (getN (N - (j+1)) (bs.drop (m+us)))):=by
      rw [Hid,hh.out,NX.out,andThen_step out m _ _ _ HR2.out rfl];simp
     have LO:out.length≤N:=by rw [HO.out];omega
     clear ok hh NX
     have ec:¬cap=m:=by omega
     all_goals have HV':=HV.out
     all_goals first|rw [if_pos ec] at HV' | rw [if_neg ec] at HV'
     all_goals have HVV:=Hid.mk HV'
     all_goals clear HV'
     all_goals
      go_wp2_with (first|(at_builtin;refine wp_push (.tmp 38) (.tmp 40) 27 _ 3 8 _ elemInt rfl rfl Tryz.underlying27 w.heap.size _ (.int .i64 x) _ rfl hown.drewN rfl rfl (by simp [maxLen];omega) (by simp;omega) hb2 ?_;intro v' w' hown' hb')|(go_at_call 208;refine (refGetInt _ (bs.drop m) _ (by first|exact HVV.out|(have h:=HVV.out;simp [ec] at h ⊢; exact h)) (hby.drop m)).mono ?_;rintro e w' ⟨rfl,q,rfl⟩;rw [HR2.out]))
      go_roundw
      case rel=>exact ⟨j+1,m+us,out ++ [x],by omega,by omega,by omega,by simp [HO.out],by go_num,by go_num,by simpa using hown',(HB.out.trans ((Still.one _ _).below _)).trans hb',ST⟩
      case measure=>simp [intOf];omega
    ·have g2' : (e2 == 0)=false:=by simpa using g2
     have ST:Hid (getInts bs=([],0,e2)):=by
      rw [Hid,hh.out,NX.out,andThen_err out m _ _ _ HR2.out g2]
     clear ok hh NX
     by_cases ec:cap=m
     all_goals have HV':=HV.out
     all_goals first|rw [if_pos ec] at HV' | rw [if_neg ec] at HV'
     all_goals have HVV:=Hid.mk HV'
     all_goals clear HV'
     all_goals
      go_wp2_with (go_at_call 208;refine (refGetInt _ (bs.drop m) _ (by first|exact HVV.out|(have h:=HVV.out;simp [ec] at h ⊢; exact h)) (hby.drop m)).mono ?_;rintro e w' ⟨rfl,q,rfl⟩;rw [HR2.out])
      go_ret3
      exact MadeIntsN.mk ST.out (Own.nil _ _ _) (HB.out.trans ((Still.one _ _).below _))
   ·have DN:Hid (getInts bs=(out,(m:Int),0)):=by
     rw [Hid,hh.out,show N - j=0 by omega,andThen_done]
    go_wp2
    go_ret3
    exact MadeIntsN.mk DN.out hown HB.out
 ·have g' : (er == 0)=false:=by simpa using g
  have L2:Hid (getInts bs=([],0,er)):=by rw [Hid,L.out,if_pos g]
  go_enter Tryz.func125,Tryz.ntmps125
  go_wp2_with (go_at_call 207;refine (refLength _ bs _ _ hv hby (by omega) (by omega)).mono ?_;rintro e w' ⟨rfl,k,rfl⟩;rw [HR.out])
  go_ret3
  exact MadeIntsN.mk L2.out (Own.nil _ _ _) ((Still.one _ _).below _)
theorem wireGetInts (v:Value) (bs:List Int) (w:World) (hv:Bytes w v bs) (hby:Byte bs) (hl:bs.length≤1000000000):Calls Tryz.prog 119 #[v] w (MadeIntsN w (getInts bs)):=by
 go_enter Tryz.func119,Tryz.ntmps119
 go_wp2_with (go_at_call 203;refine (wireGet _ bs _ hv hby hl).mono ?_;rintro e w1 ⟨v1,rfl,ho1,hb1⟩)
 go_ret3
 exact ⟨_,rfl,ho1,hb1⟩
theorem below_alloc (w:World) (o:Obj):Below w.heap.size w (w.alloc o):=(Below.refl _ _).alloc (Nat.le_refl _) _
theorem below_drewN (w:World) (n:Nat):Below w.heap.size w (w.drewN n):=(Still.one w n).below _
def RdS (w:World) (v:Value) (k:Nat) (rows:List (List Value)):Prop:=
 ∃a cap b off,v = .slice a rows.length cap∧rows.length≤cap∧cap≤maxLen∧(0 < rows.length→a=some ⟨b,off,none⟩) ∧
  ∀i j r u,rows[i]? = some r→r[j]? = some u→w.cell? ⟨b,off+i * k+j,none⟩=some u
theorem RdS.below {w w' : World} {v:Value} {k:Nat} {rows:List (List Value)} (h:RdS w v k rows) (hb:Below w.heap.size w w'):RdS w' v k rows:=by
 obtain ⟨a,cap,b,off,h1,h2,h3,h4,h5⟩:=h
 exact ⟨a,cap,b,off,h1,h2,h3,h4,fun i j r u hr hu=>below_cell hb (h5 i j r u hr hu)⟩
def Strs (w:World) (v:Value) (l:List ByteArray):Prop:=Rd w v (l.map Value.string)
theorem Strs.below {w w' : World} {v:Value} {l:List ByteArray} (h:Strs w v l) (hb:Below w.heap.size w w'):Strs w' v l:=Rd.below h hb
theorem Ints.below {w w' : World} {v:Value} {l:List Int} (h:Ints w v l) (hb:Below w.heap.size w w'):Ints w' v l:=Rd.below h hb
theorem Bytes.below {w w' : World} {v:Value} {l:List Int} (h:Bytes w v l) (hb:Below w.heap.size w w'):Bytes w' v l:=Rd.below h hb
theorem Strs.open {w:World} {v:Value} {l:List ByteArray} (h:Strs w v l):∃a cap b off,v = .slice a l.length cap∧l.length≤cap∧cap≤maxLen ∧
  (0 < l.length→a=some ⟨b,off,none⟩)∧Hid (∀j x,l[j]? = some x→w.cell? ⟨b,off+j,none⟩=some (.string x)):=by
 obtain ⟨a,cap,b,off,h1,h2,h3,h4,h5⟩:=h
 simp only [List.length_map] at h1 h2 h4
 exact ⟨a,cap,b,off,h1,h2,h3,h4,fun j x hx=>h5 j _ (by simp [hx])⟩
def attrC (a:PAttr):List Value := [.string a.name, .int .i64 a.kind, .int .i64 a.n, .string a.s]
def attrV (a:PAttr):Value:=.agg #[.string a.name, .int .i64 a.kind, .int .i64 a.n, .string a.s]
def Attrs (w:World) (v:Value) (l:List PAttr):Prop:=RdS w v 4 (l.map attrC)
theorem Attrs.below {w w' : World} {v:Value} {l:List PAttr} (h:Attrs w v l) (hb:Below w.heap.size w w'):Attrs w' v l:=RdS.below h hb
def AttrAt (w:World) (b off:Nat) (x:PAttr):Prop:=
 w.cell? ⟨b,off,none⟩=some (.string x.name)∧w.cell? ⟨b,off+1,none⟩=some (.int .i64 x.kind)∧w.cell? ⟨b,off+2,none⟩=some (.int .i64 x.n)∧w.cell? ⟨b,off+3,none⟩=some (.string x.s)
theorem AttrAt.below {w w' : World} {b off:Nat} {x:PAttr} (h:AttrAt w b off x) (hb:Below w.heap.size w w'):AttrAt w' b off x:=
 ⟨below_cell hb h.1,below_cell hb h.2.1,below_cell hb h.2.2.1,below_cell hb h.2.2.2⟩
theorem AttrAt.lt {w:World} {b off:Nat} {x:PAttr} (h:AttrAt w b off x):b < w.heap.size:=World.block_lt_of_cell? _ _ h.1
theorem Attrs.open {w:World} {v:Value} {l:List PAttr} (h:Attrs w v l):∃a cap b off,v = .slice a l.length cap∧l.length≤cap∧cap≤maxLen ∧
  (0 < l.length→a=some ⟨b,off,none⟩)∧Hid (∀i x,l[i]? = some x→AttrAt w b (off+i * 4) x):=by
 obtain ⟨a,cap,b,off,h1,h2,h3,h4,h5⟩:=h
 simp only [List.length_map] at h1 h2 h4
 refine ⟨a,cap,b,off,h1,h2,h3,h4,fun i x hx=>?_⟩
 have e:(l.map attrC)[i]? = some (attrC x):=by simp [hx]
 exact ⟨h5 i 0 _ _ e rfl,h5 i 1 _ _ e rfl,h5 i 2 _ _ e rfl,h5 i 3 _ _ e rfl⟩
def DefAt (w:World) (b off:Nat) (d:PDef) (wv:Value):Prop:=
 w.cell? ⟨b,off,none⟩=some (.string d.name)∧w.cell? ⟨b,off+1,none⟩=some (.int .i64 d.kind)∧w.cell? ⟨b,off+2,none⟩=some (.int .i64 d.lo)∧w.cell? ⟨b,off+3,none⟩=some (.int .i64 d.hi)∧w.cell? ⟨b,off+4,none⟩=some wv
theorem DefAt.below {w w' : World} {b off:Nat} {d:PDef} {wv:Value} (h:DefAt w b off d wv) (hb:Below w.heap.size w w'):DefAt w' b off d wv:=
 ⟨below_cell hb h.1,below_cell hb h.2.1,below_cell hb h.2.2.1,below_cell hb h.2.2.2.1,below_cell hb h.2.2.2.2⟩
theorem DefAt.lt {w:World} {b off:Nat} {d:PDef} {wv:Value} (h:DefAt w b off d wv):b < w.heap.size:=World.block_lt_of_cell? _ _ h.1
def defV (d:PDef) (wv:Value):Value:=.agg #[.string d.name, .int .i64 d.kind, .int .i64 d.lo, .int .i64 d.hi,wv]
def Defs (w:World) (v:Value) (l:List PDef):Prop:=
 ∃a cap b off,v = .slice a l.length cap∧l.length≤cap∧cap≤maxLen∧(0 < l.length→a=some ⟨b,off,none⟩) ∧
  ∀i d,l[i]? = some d→∃wv,DefAt w b (off+i * 5) d wv∧Strs w wv d.words
theorem Defs.below {w w' : World} {v:Value} {l:List PDef} (h:Defs w v l) (hb:Below w.heap.size w w'):Defs w' v l:=by
 obtain ⟨a,cap,b,off,h1,h2,h3,h4,h5⟩:=h
 refine ⟨a,cap,b,off,h1,h2,h3,h4,fun i d hd=>?_⟩
 obtain ⟨wv,h6,h7⟩:=h5 i d hd
 exact ⟨wv,h6.below hb,h7.below hb⟩
theorem Defs.open {w:World} {v:Value} {l:List PDef} (h:Defs w v l):∃a cap b off,v = .slice a l.length cap∧l.length≤cap∧cap≤maxLen ∧
  (0 < l.length→a=some ⟨b,off,none⟩)∧Hid (∀i d,l[i]? = some d→∃wv,DefAt w b (off+i * 5) d wv∧Strs w wv d.words):=h
def SchemaV (w:World) (v:Value) (s:PSchema):Prop:=∃dv,v = .agg #[.int .i64 s.dims, .int .i64 s.metric,dv]∧Defs w dv s.defs
theorem SchemaV.below {w w' : World} {v:Value} {s:PSchema} (h:SchemaV w v s) (hb:Below w.heap.size w w'):SchemaV w' v s:=by
 obtain ⟨dv,h1,h2⟩:=h
 exact ⟨dv,h1,h2.below hb⟩
def entryVal (e:PEntry) (vv av:Value):Value:=.agg #[.int .i64 e.id, .int .i64 e.ver, .int .i64 e.owner, .int .i64 e.filed, .int .i64 e.frm, .int .i64 e.to, .int .i64 e.born,vv,av]
def EntryV (w:World) (v:Value) (e:PEntry):Prop:=∃vv av,v=entryVal e vv av∧Ints w vv e.vec∧Attrs w av e.attrs
theorem EntryV.below {w w' : World} {v:Value} {e:PEntry} (h:EntryV w v e) (hb:Below w.heap.size w w'):EntryV w' v e:=by
 obtain ⟨vv,av,h1,h2,h3⟩:=h
 exact ⟨vv,av,h1,h2.below hb,h3.below hb⟩
def RetB (w:World) (b:Bool) (e:Ending) (w' : World):Prop:=e = .returned (.bool b)∧Below w.heap.size w w'
def RetI (w:World) (n:Int) (e:Ending) (w' : World):Prop:=e = .returned (.int .i64 n)∧Below w.heap.size w w'
theorem RetB.mk {w w' : World} {a b:Bool} (h:a=b) (hb:Below w.heap.size w w'):RetB w b (.returned (.bool a)) w':=⟨by rw [h],hb⟩
theorem RetI.mk {w w' : World} {a b:Int} (h:a=b) (hb:Below w.heap.size w w'):RetI w b (.returned (.int .i64 a)) w':=⟨by rw [h],hb⟩
end
end Go.Proofs.YtoamkpgaaanafaaGreat
