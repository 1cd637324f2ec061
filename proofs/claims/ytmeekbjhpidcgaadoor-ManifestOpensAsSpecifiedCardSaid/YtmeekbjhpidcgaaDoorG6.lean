/- Out of: Wire4, Ri. -/
import Derived.Test.YtmeekbjhpidcgaaDoorG2
import Derived.Test.YtmeekbjhpidcgaaDoorG3
import Derived.Test.YtmeekbjhpidcgaaDoorG4
namespace Go.Proofs.YtmeekbjhpidcgaaDoor
set_option linter.unusedSimpArgs false
set_option linter.unusedVariables false
set_option linter.unnecessarySimpa false
section
open Go.RowKit
theorem Byte.all {bs:List Int} (h:Byte bs):∀c∈bs,0≤c∧c < 256:=by
 intro c hc
 obtain ⟨k,hk⟩:=List.getElem?_of_mem hc
 exact h k c hk
theorem Byte.of {bs:List Int} (h:∀c∈bs,0≤c∧c < 256):Byte bs:=fun _ c hk=>h c (List.mem_of_getElem? hk)
set_option maxRecDepth 100000 in
set_option maxHeartbeats 1000000 in
theorem wireLength (v:Value) (bs:List Int) (least:Int) (w:World) (hv:Bytes w v bs) (hby:Byte bs) (hl:1≤least) (hl2:least≤1000):Calls Tryd.prog 70 #[v, .int .i64 least] w (Ret3 w (lenL bs least)):=by
 obtain ⟨a,cap,b,off,hvv,hcap,hm,-⟩:=hv.open
 unfold maxLen at hm
 have ok:=Hid.mk (getI_ok bs hby.all)
 obtain ⟨n,u,er,hr⟩:∃n u er,getI bs=(n,u,er):=⟨_,_,_,rfl⟩
 have L:Hid (lenL bs least=if er≠0 then (0,0,er) else if n < 0 then (0,0,11) else if (bs.length - u) / least < n then (0,0,10) else (n,u,0)):=by
  rw [Hid,lenL,hr]
 have HR:=Hid.mk hr
 rw [hr] at ok
 clear hr
 subst hvv
 by_cases g:er=0
 ·obtain rfl:=g
  obtain ⟨o1,o2,o3,o4⟩:=ok.out rfl
  simp only at o1 o2 o3 o4
  by_cases g1:n < 0
  ·have L2:Hid (lenL bs least=(0,0,11)):=by rw [Hid,L.out,if_neg (by simp),if_pos g1]
   go_enter Tryd.func70,Tryd.ntmps70
   go_wp2_with (go_at_call 89;refine (wireGetInt _ bs _ hv hby).mono ?_;rintro e w' ⟨rfl,k,rfl⟩;rw [HR.out])
   go_ret3
   exact Ret3.mk L2.out (Still.one _ _)
  ·by_cases g2:(bs.length - u) / least < n
   ·have L2:Hid (lenL bs least=(0,0,10)):=by rw [Hid,L.out,if_neg (by simp),if_neg g1,if_pos g2]
    go_enter Tryd.func70,Tryd.ntmps70
    go_wp2_with (go_at_call 89;refine (wireGetInt _ bs _ hv hby).mono ?_;rintro e w' ⟨rfl,k,rfl⟩;rw [HR.out])
    go_ret3
    exact Ret3.mk L2.out (Still.one _ _)
   ·have L2:Hid (lenL bs least=(n,u,0)):=by rw [Hid,L.out,if_neg (by simp),if_neg g1,if_neg g2]
    go_enter Tryd.func70,Tryd.ntmps70
    go_wp2_with (go_at_call 89;refine (wireGetInt _ bs _ hv hby).mono ?_;rintro e w' ⟨rfl,k,rfl⟩;rw [HR.out])
    go_ret3
    exact Ret3.mk L2.out (Still.one _ _)
 ·have g' : (er == 0)=false:=by simpa using g
  have L2:Hid (lenL bs least=(0,0,er)):=by rw [Hid,L.out,if_pos g]
  go_enter Tryd.func70,Tryd.ntmps70
  go_wp2_with (go_at_call 89;refine (wireGetInt _ bs _ hv hby).mono ?_;rintro e w' ⟨rfl,k,rfl⟩;rw [HR.out])
  go_ret3
  exact Ret3.mk L2.out (Still.one _ _)
def Fit (l:List Int):Prop:=∀z∈l,-9223372036854775808≤z∧z≤9223372036854775807
theorem oneCells (k:IntKind) (l:List Int):∀c∈l.map (Value.int k),c.oneCell' = true:=by
 intro c hc
 obtain ⟨_,_,rfl⟩:=List.mem_map.1 hc
 rfl
set_option maxRecDepth 100000 in
set_option maxHeartbeats 1000000 in
theorem wireList (v:Value) (zs:List Int) (w:World) (hv:Ints w v zs) (hf:Fit zs) (hl:zs.length≤1000000000):Calls Tryd.prog 74 #[v, .func (.func 65) #[] #[]] w (MadeBytes w (intsB zs)):=by
 obtain ⟨a,cap,b,off,rfl,hcap,hm,ha,hc⟩:=hv.open
 have HF:=Hid.mk hf
 have hl0:=intB_len zs.length (by omega) (by omega)
 go_enter Tryd.func74,Tryd.ntmps74
 go_wp2_with (go_at_call 65;refine (wireInt _ _ (by omega) (by omega)).mono ?_;rintro e w1 ⟨v1,rfl,ho1,hb1⟩)
 go_loopw [5,13] (fun o i wr=>∃k:Nat,k≤zs.length∧i = .int .i64 k∧Own w.heap.size 5 wr o ((intB zs.length ++ ((zs.take k).map intB).flatten).map (Value.int .u8))∧Below w.heap.size w wr) (fun _ i _=>zs.length - (intOf i).toNat)
 case atStart=>exact ⟨0,by omega,rfl,by simpa using ho1,hb1⟩
 case round=>
  obtain ⟨k,hk,rfl,hown,hb⟩:=hrel
  have HB:=Hid.mk hb
  clear hb
  have hb2:=HB.out.size
  by_cases hlt:k < zs.length
  ·obtain ⟨y,hy⟩:=ints_get zs k hlt
   have c1:=below_cell HB.out (hc.out k y hy)
   obtain ⟨y1,y2⟩:=HF.out y (List.mem_of_getElem? hy)
   have hl1:=intB_len y y1 y2
   have hl2:=flat_len (zs.take k) (fun z hz=>HF.out z (List.mem_of_mem_take hz))
   have hl3:(zs.take k).length≤zs.length:=by rw [List.length_take];omega
   obtain rfl:=ha (by omega)
   have T:=Hid.mk (flat_take zs k y hy)
   clear ha hy
   go_wp2_with (first|(at_builtin;refine wp_append (.tmp 17) (.tmp 20) 87 5 1 _ elemByte rfl rfl Tryd.underlying87 w.heap.size _ _ _ _ rfl (hown.kept hb3) rfl ho3.rd (by simp only [List.length_map];omega) (oneCells _ _) (by simp only [List.length_map,List.length_append,maxLen];omega) (by simp only [List.length_map,List.length_append];omega) (by have:=hb3.size;omega) ?_;intro v' w' hown' hb')|(go_at_call 65;refine (wireInt _ _ y1 y2).mono ?_;rintro e w3 ⟨v3,rfl,ho3,hb3⟩))
   go_roundw
   case rel=>exact ⟨k+1,by omega,by go_num,by rw [T.out,←List.append_assoc,List.map_append];exact hown',(HB.out.trans (hb3.mono hb2)).trans hb'⟩
   case measure=>simp [intOf];omega
  ·have e:zs.take k=zs:=List.take_of_length_le (by omega)
   rw [e] at hown
   go_wp2
   go_ret
   exact ⟨_,rfl,hown,HB.out⟩
theorem wireInts (v:Value) (zs:List Int) (w:World) (hv:Ints w v zs) (hf:Fit zs) (hl:zs.length≤1000000000):Calls Tryd.prog 60 #[v] w (MadeBytes w (intsB zs)):=by
 go_enter Tryd.func60,Tryd.ntmps60
 go_wp2_with (go_at_call 74;refine (wireList _ zs _ hv hf hl).mono ?_;rintro e w1 ⟨v1,rfl,ho1,hb1⟩)
 go_ret
 exact ⟨_,rfl,ho1,hb1⟩
end
section
def newerM (x y:PMan):PMan:=if x.ver < y.ver then y else x
def copiesM (rd:Nat→Option PMan):List (Nat×PMan):=(List.range 4).filterMap fun k=>(rd k).map fun m=>(k,m)
def bestM (rd:Nat→Option PMan):PMan:=(copiesM rd).foldl (fun x y=>newerM x y.2) zeroM
theorem mem_copies {rd:Nat→Option PMan} {y:Nat×PMan} : y∈copiesM rd↔y.1 < 4∧rd y.1=some y.2:=by
 obtain ⟨k,m⟩:=y
 unfold copiesM
 simp only [List.mem_filterMap,List.mem_range,Option.map_eq_some_iff,Prod.mk.injEq]
 constructor
 ·rintro ⟨a,h1,b,h2,rfl,rfl⟩
  exact ⟨h1,h2⟩
 ·rintro ⟨h1,h2⟩
  exact ⟨k,h1,m,h2,rfl,rfl⟩
theorem best_fold {now:PMan} : ∀(l:List (Nat×PMan)) (x:PMan),(x=now∨x.ver < now.ver)→(∀y∈l,y.2=now∨y.2.ver < now.ver)→((∃y∈l,y.2=now)∨x=now)→l.foldl (fun x y=>newerM x y.2) x=now
 | [],x,_,_,h=>by
  rcases h with ⟨y,hy,-⟩|h
  ·simp at hy
  ·exact h
 |z :: l,x,hx,hl,h=>by
  rw [List.foldl_cons]
  have hz:=hl z (by simp)
  have hn:newerM x z.2=now∨(newerM x z.2).ver < now.ver:=by
   unfold newerM
   split
   ·exact hz
   ·exact hx
  refine best_fold l _ hn (fun y hy=>hl y (by simp [hy])) ?_
  rcases h with ⟨y,hy,e⟩|h
  ·rcases List.mem_cons.1 hy with rfl|hy
   ·right
    unfold newerM
    split
    ·exact e
    ·rename_i g
     rcases hx with hx|hx
     ·exact hx
     ·rw [e] at g;omega
   ·exact .inl ⟨y,hy,e⟩
  ·right
   unfold newerM
   split
   ·rename_i g
    rcases hz with hz|hz
    ·exact hz
    ·rw [h] at g;omega
   ·exact h
theorem best_is {rd:Nat→Option PMan} {now:PMan} (h0:0 < now.ver) {s:Nat} (hs:s < 4) (h1:rd s=some now) (h:∀k m,k < 4→rd k=some m→m=now∨m.ver < now.ver):bestM rd=now:=
 best_fold _ _ (.inr (by unfold zeroM;exact h0)) (fun y hy=>by
  obtain ⟨y1,y2⟩:=mem_copies.1 hy
  exact h _ _ y1 y2) (.inl ⟨(s,now),mem_copies.2 ⟨hs,h1⟩,rfl⟩)
theorem best_zero {rd:Nat→Option PMan} (h:∀k,k < 4→rd k=none):bestM rd=zeroM:=by
 unfold bestM
 rw [show copiesM rd = [] from List.eq_nil_iff_forall_not_mem.2 fun y hy=>by
  obtain ⟨y1,y2⟩:=mem_copies.1 hy
  rw [h _ y1] at y2
  cases y2]
 rfl
end
end Go.Proofs.YtmeekbjhpidcgaaDoor
