/- Out of: He. -/
import Derived.Test.YtmeekbjhpidcgaaDoorG29
namespace Go.Proofs.YtmeekbjhpidcgaaDoor
set_option linter.unusedSimpArgs false
set_option linter.unusedVariables false
set_option linter.unnecessarySimpa false
section
open Go.RowKit
def beginS:Strm:=⟨⟨1779033703,3144134277,1013904242,2773480762,1359893119,2600822924,528734635,1541459225⟩,List.replicate 64 0,0⟩
set_option maxRecDepth 10000 in
set_option maxHeartbeats 2000000 in
theorem pw_begin:PCalls Tryd.prog 62 [] (· = .agg (pS beginS)):=by
 refine pcalls_of_pw typeTab_ok Tryd.func62 rfl (by kernel_rfl) (by simp) (by simp) (Nat.le_of_ble_eq_true rfl) ?_
 refine wk ?_
 exact ⟨_,presult1 (pres_cell rfl rfl rfl rfl rfl), .agg _ (low_pS beginS),rfl⟩
theorem pcWBytes (s:ByteArray) (hl:s.size≤1000000000):PCalls Tryd.prog 48 [pstr s] (· = pbytesO (strB s)):=
 pcalls1 (by kernel_rfl) fun Φ μ w v himm hr=>by
  obtain ⟨rfl,-⟩:=hr.val_inv
  exact (wireBytes s w hl).mono (by
  rintro e w' ⟨u,rfl,ho,hb⟩
  exact post_own himm (fun _=>rfl) ho hb)
def partsS (ks:List Int):Strm→List ByteArray→Strm
 |s,[]=>s
 |s,p :: l=>partsS ks (addS ks s (strB p)) l
def ofS (ks:List Int) (tag:Int) (l:List ByteArray):List Int:=(sumS ks (partsS ks (addS ks beginS [IntKind.u8.wrap tag]) l)).take 16
theorem addS_n (ks:List Int):∀(n:Nat) (s:Strm) (bs:List Int),bs.length=n→(addS ks s bs).n=s.n+bs.length:=by
 intro n
 induction n using Nat.strongRecOn with
 |_ n ih=>
  intro s bs hl
  by_cases h0:bs = []
  ·subst h0;rw [addS_nil];rfl
  ·have h1:bs.length≠0:=fun e=>h0 (List.eq_nil_of_length_eq_zero e)
   have h2:=Nat.mod_lt s.n (show 0 < 64 by omega)
   rw [addS_cons ks s h0,ih _ (by rw [←hl,List.length_drop];omega) _ _ rfl,turn_n,List.length_take,List.length_drop]
   omega
theorem partsS_snoc (ks:List Int):∀(l:List ByteArray) (s:Strm) (p:ByteArray),partsS ks s (l ++ [p])=addS ks (partsS ks s l) (strB p)
 | [],s,p=>rfl
 |q :: l,s,p=>by rw [List.cons_append,partsS,partsS,partsS_snoc ks l]
theorem partsS_ok (ks:List Int) (s:Strm) (hs:s.blk.length=64) (l:List ByteArray) (hl:SmallStrs l):(partsS ks s l).blk.length=64∧(partsS ks s l).n≤s.n+l.length * 1000010:=by
 induction l generalizing s with
 |nil=>exact ⟨hs,by simp [partsS]⟩
 |cons p l ih=>
  have h1:=ih (addS ks s (strB p)) (addS_len ks _ s (strB p) rfl hs) (fun x hx=>hl x (List.mem_cons_of_mem _ hx))
  have h2:=(strB_len p (hl p (List.mem_cons_self ..))).2
  have h3:=addS_n ks _ s (strB p) rfl
  refine ⟨h1.1,?_⟩
  have h4:=h1.2
  rw [partsS,List.length_cons]
  omega
theorem leb_byte (n:Nat):∀z,z < n→∀c∈leb z,0≤c∧c < 256:=by
 induction n with
 |zero=>intro z h;omega
 |succ n ih=>
  intro z hz c hc
  by_cases h:z < 128
  ·rw [leb_small z h] at hc;simp at hc;subst hc;omega
  ·rw [leb_big z (by omega)] at hc
   rcases List.mem_cons.1 hc with rfl|hc
   ·omega
   ·exact ih (z / 128) (by omega) c hc
theorem intB_byte (n:Int):∀c∈intB n,0≤c∧c < 256:=leb_byte _ _ (Nat.lt_succ_self _)
theorem strB_byte (p:ByteArray) (h:p.size≤1000000):∀c∈strB p,0≤c∧c < 256:=by
 intro c hc
 rcases List.mem_append.1 hc with h|h
 ·exact intB_byte _ c h
 ·exact bytesL_byte p c h
set_option maxRecDepth 10000 in
set_option maxHeartbeats 2000000 in
theorem pw_of (tag:Int) (l:List ByteArray) (hl:l.length≤1000000) (hs:SmallStrs l):PCalls Tryd.prog 47 [pint tag,pstrs l] (· = .agg ((ofS glob0 tag l).map pbyte)):=by
 refine pcalls_of_pw typeTab_ok Tryd.func47 rfl (by kernel_rfl) (by exact lw) (by simp [pint,pstrs,PV.ownB]) (Nat.le_of_ble_eq_true rfl) ?_
 have hb:=pw_begin
 have ha:=pw_add beginS [IntKind.u8.wrap tag] rfl (by intro c hc;simp at hc;subst hc;rw [IntKind.wrap_u8];omega) (by simp [beginS])
 have h0l:=addS_len glob0 _ beginS [IntKind.u8.wrap tag] rfl rfl
 have h0n:=addS_n glob0 _ beginS [IntKind.u8.wrap tag] rfl
 rw [show ofS glob0 tag l=(sumS glob0 (partsS glob0 (addS glob0 beginS [IntKind.u8.wrap tag]) l)).take 16 from rfl]
 obtain ⟨s0,hs0⟩:∃s0,s0=addS glob0 beginS [IntKind.u8.wrap tag]:=⟨_,rfl⟩
 rw [←hs0] at ha h0l h0n ⊢
 have h0n' : s0.n=1:=h0n
 have l0:=low_pS s0
 have hok:=fun i=>partsS_ok glob0 s0 h0l (l.take i) (fun x hx=>hs x (List.mem_of_mem_take hx))
 refine wk ?_
 refine PWops.stAll rfl rfl rfl rfl rfl rfl rfl rfl rfl (len_pS h0l) rfl (one_pS s0) (bare_pS s0) ?_
 refine wk ?_
 refine PW.loop (fun i:Nat=>(((((((bot.setb 0 (List.replicate 16 (pbyte 0))).put 4 (.ptr 0 0)).setb 1006 (pS (partsS glob0 s0 (l.take i)))).put 5 (.ptr 1006 0)).put 15 (pstrs l)).put 16 (pint l.length)).put 17 (pint i))) (fun i=>i≤l.length) (fun i=>l.length - i) 0 (by omega) ?_ ?_
 ·exact sb
 ·intro i hi
  have hoi:=hok i
  have hti:(l.take i).length=i:=by rw [List.length_take];omega
  rw [hti] at hoi
  have li:=low_pS (partsS glob0 s0 (l.take i))
  by_cases hlt:i < l.length
  ·have hsm:(l.getD i default).size≤1000000:=hs _ (by rw [List.getD_eq_getElem?_getD,List.getElem?_eq_getElem hlt];exact List.getElem_mem hlt)
   have hpl:=(strB_len (l.getD i default) hsm).2
   have hw:=pcWBytes (l.getD i default) (by omega)
   have hadd:=pw_add (partsS glob0 s0 (l.take i)) (strB (l.getD i default)) hoi.1 (strB_byte _ hsm) (by have:=hoi.2;omega)
   have hnx:partsS glob0 s0 (l.take (i+1))=addS glob0 (partsS glob0 s0 (l.take i)) (strB (l.getD i default)):=by rw [take_getD default hlt,partsS_snoc]
   have hal:=addS_len glob0 _ _ (strB (l.getD i default)) rfl hoi.1
   rw [←hnx] at hadd hal
   have li2:=low_pS (partsS glob0 s0 (l.take (i+1)))
   refine wk ?_
   refine PWops.ldAll rfl rfl rfl rfl rfl rfl rfl (len_pS hoi.1) (bare_pS _) ?_
   refine wk ?_
   refine PWops.stAll rfl rfl rfl rfl rfl rfl rfl rfl rfl (len_pS hal) (len_pS hoi.1) (one_pS _) (bare_pS _) ?_
   refine wk ?_
   refine loopP (i+1) (by omega) (by omega) ?_
   exact sb
  ·have e:i=l.length:=by omega
   subst e
   rw [List.take_length] at hoi li ⊢
   have hsum:=pw_sum (partsS glob0 s0 l) hoi.1 (by have:=hoi.2;omega)
   have hsl:(sumS glob0 (partsS glob0 s0 l)).length=32:=outW_len _ _
   clear hok ha hs0 hb h0n hi
   generalize partsS glob0 s0 l=u at *
   generalize sumS glob0 u=D at *
   refine wk ?_
   refine PWops.ldAll rfl rfl rfl rfl rfl rfl rfl (len_pS hoi.1) (bare_pS _) ?_
   refine wk ?_
   refine PWops.ldBA (row:=(D.take 16).map pbyte) rfl rfl rfl rfl rfl rfl rfl (by rw [List.length_map,hsl];decide) (by show List.map PV.bare (List.take 16 (List.drop 0 (List.map pbyte D)))=_;rw [List.drop_zero,←List.map_take,bare_map (fun _=>rfl)]) ?_
   have htl:(D.take 16).length=16:=by rw [List.length_take,hsl];rfl
   refine PWops.stAll rfl rfl rfl rfl rfl rfl rfl rfl rfl (len_map htl) rfl (one_map (fun _=>rfl) _) (bare_map (fun _=>rfl) _) ?_
   refine wk ?_
   exact ⟨_,presult1 (pres_cell rfl rfl rfl (len_map htl) (bare_map (fun _=>rfl) _)), .agg _ (low_map (fun _=>Low.val _) _),rfl⟩
end
end Go.Proofs.YtmeekbjhpidcgaaDoor
