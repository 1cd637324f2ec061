/- Out of: Tq. -/
import Derived.Test.YtmeekbjhpidcgaaDoorG38
namespace Go.Proofs.YtmeekbjhpidcgaaDoor
set_option linter.unusedSimpArgs false
set_option linter.unusedVariables false
set_option linter.unnecessarySimpa false
section
open Go.RowKit
variable {P:Program} {T:Tab} {σ:PS} {o:Oper} {i base:Nat} {ops:Array Oper} {ok:Nat→Nat→Bool} {rest:List (Nat×Oper)} {K:PS→Prop}
theorem PWops.appFu {d s n m k e by_:Nat} {cs ds zr:List PV} {own:Option TypeId} {x:Operand} {t:TypeId} {sz:Nat} {ag:Bool} {zz:List PV} {es:List SK} (hg:pguard ops σ o=some true) (hd:o.dst=some d) (hop:o.op = .call { callee:=.builtin .append,args := #[.tmp s,x],argTypes := #[t,t] }) (hs:σ.t s = .sl n k cs (some (e+1000000))) (hx:pev σ x = .sl m k ds own) (ht:T.at t=some ⟨sz,ag, .slice e k by_ zr,zz,es⟩) (hb:σ.freeB (base+i)=true) (he:Nat.blt e 1000000=true) (hm:0 < m)
  (h1:(n+m) * by_≤140737488355328) (h2:n+m≤140737488355328) (hone:ds.all PV.one=true) (kn:PWops P T ops base ok rest K ((σ.put s (.sl n k cs none)).put d (.sl (n+m) k (cs ++ ds) (some e)))):PWops P T ops base ok ((i,o) :: rest) K σ:=by
 refine PWops.step hg (E:=⟨.sl (n+m) k (cs ++ ds) (some e),[],some s,[]⟩) ?_ hb ?_
 ·have how:ownPV (σ.only (ok i)) (.tmp s) = .sl n k cs (some (e+1000000)):=hs
  simp [hop,presE,how,pev_only,hx,ht,pappend,asOwn,asSrc,h1,h2,disOf,hm,(by simpa [Nat.blt_eq] using he:e < 1000000)]
  simpa using hone
 ·rw [hd]
  simp only [PS.app,hs,List.foldl_nil,List.foldl_cons]
  exact kn
end
section
open Go.RowKit
def secOf (l:List Int):Sec:=⟨if l.length=64∧∀x∈l,0≤x∧x < 256 then l else List.replicate 64 0,by split;assumption;decide⟩
theorem secOf_eq {l:List Int} (h:l.length=64∧∀x∈l,0≤x∧x < 256):(secOf l).1=l:=if_pos h
def blksL (a:Nat) (S:List Int):List PPut:=(List.range ((S.length+63) / 64)).map fun i=>⟨((a+i:Nat):Int),secOf (blk S i)⟩
def DM.wr (D:DM) (at_ slot:Nat) (m:PMan):DM:=D.puts (blksL (at_+slot * 256) (slotM hfT m))
theorem blk_byte {S:List Int} (h:∀c∈S,0≤c∧c < 256) (i:Nat):(blk S i).length=64∧∀c∈blk S i,0≤c∧c < 256:=by
 refine ⟨blk_len S i,fun c hc=>?_⟩
 unfold blk at hc
 rcases List.mem_append.1 hc with hc|hc
 ·exact h c (List.mem_of_mem_drop (List.mem_of_mem_take hc))
 ·obtain ⟨-,rfl⟩:=List.mem_replicate.1 hc;decide
theorem splice_blk {S:List Int} (h:∀c∈S,0≤c∧c < 256) (i:Nat):splice (List.replicate 64 (pbyte 0)) (0+0 * 1) (((S.drop (64 * i)).map pbyte).take (min (S.drop (64 * i)).length (64 - 0) * 1))=secL (secOf (blk S i)):=by
 have e:secL (secOf (blk S i))=(blk S i).map pbyte:=by
  unfold secL;rw [secOf_eq (blk_byte h i)]
 rw [e]
 unfold blk splice
 generalize S.drop (64 * i)=X
 have e2:(X.map pbyte).take (min X.length (64 - 0) * 1)=(X.take 64).map pbyte:=by
  rw [Nat.mul_one,Nat.sub_zero,←List.map_take]
  congr 1
  by_cases hx:X.length≤64
  ·rw [Nat.min_eq_left hx,List.take_length,List.take_of_length_le hx]
  ·rw [Nat.min_eq_right (by omega)]
 rw [e2,List.map_append,List.map_replicate,List.length_map,List.drop_replicate]
 simp
set_option maxRecDepth 10000 in
set_option maxHeartbeats 2000000 in
theorem tc_write1 {n k:Nat} {D:DM} (h:OkD n k D) (at_ slot:Nat) (now m:PMan) (hs3:slot≤3) (hn:at_+1024≤n) (hn2:n≤1000000000) (hk:k+256≤100000000) (hm:EncM m) (hml:(slotM hfT m).length≤16384):HCalls Tryd.prog 29 [.ptr 1000004 0,pint slot,pman m] (tG 1000004 1000001 1000002 1000003 at_ now D) (dMs 1000003 D) (pint 0) (tG 1000004 1000001 1000002 1000003 at_ now (D.wr at_ slot m)) (dMs 1000003 (D.wr at_ slot m)):=by
 have hlr:Low (prefs now.refs):=(low_prefs _).2 trivial
 have hlt:Low (pints now.notes):=(low_pints _).2 trivial
 have hlm:=low_pmanL m
 refine th_of_pw Tryd.func29 rfl rfl (by intro p hp;rcases List.mem_cons.1 hp with rfl|hp;exact .ptr _ _ (by simp);rcases List.mem_cons.1 hp with rfl|hp;exact .val _;rcases List.mem_cons.1 hp with rfl|hp;exact ((low_pman m).2 trivial).lowI;cases hp) (by simp [pman,pint,PV.ownB]) (Nat.le_of_ble_eq_true rfl) (Low.val _).lowI ?_
 have henc:=pw_mEncode m hm
 have h16:=hfT_len (strOf (encM m))
 have hb16:=hfT_byte (strOf (encM m))
 have hsz:(strOf (encM m)).size=(encM m).length:=strOf_size _
 have hse:(encM m).length≤16384:=by
  rw [slotM,List.length_append,strB,List.length_append,bytesL_len,hsz] at hml;omega
 have hof:=pw_of 32 [strOf (encM m)] (by simp) (by intro x hx;simp only [List.mem_cons,List.not_mem_nil,or_false] at hx;subst hx;omega)
 have hof2:ofS glob0 32 [strOf (encM m)]=hfT (strOf (encM m)):=rfl
 rw [hof2] at hof
 have hby:=pcWBytes (strOf (encM m)) (by omega)
 have hSl:(slotM hfT m).length=16+(strB (strOf (encM m))).length:=by rw [slotM,List.length_append,h16]
 have hSb:∀c∈slotM hfT m,0≤c∧c < 256:=by
  intro c hc
  rw [slotM] at hc
  rcases List.mem_append.1 hc with hc|hc
  ·exact hb16 c hc
  ·exact strB_byte _ (by omega) c hc
 have h0:0 < (strB (strOf (encM m))).length:=by
  have:1≤(intB (strOf (encM m)).size).length:=leb_pos _
  rw [strB,List.length_append];omega
 have hS:slotM hfT m=hfT (strOf (encM m)) ++ strB (strOf (encM m)):=rfl
 unfold DM.wr
 clear hof2
 have c1:=dC_low D
 have c2:=dM_low D
 have hsi:strI (encM m)=strOf (encM m):=rfl
 generalize hfT (strOf (encM m))=H at *
 generalize hB:strB (strOf (encM m))=B at *
 generalize strOf (encM m)=s at *
 generalize slotM hfT m=S at *
 generalize encM m=E at *
 subst hsi
 refine wg ?_
 refine PW.region typeTab_ok (by kernel_rfl) ?_
 refine wg ?_
 refine PW.region typeTab_ok (by kernel_rfl) ?_
 refine wg ?_
 refine PW.region typeTab_ok (by kernel_rfl) ?_
 refine wg ?_
 refine PW.freezeP (id:=2003) (s:=8) (off:=0) (σ':=(((((((bot.setb 1000004 (tC 1000001 at_ now)).setb 1000001 (dB 1000002 1000003 D)).setb 1000002 (dC D)).setm 1000003 (dM D)).put 0 (.ptr 1000004 0)).put 1 (pint slot)).put 7 (.val (.string (strI E))))) rfl rfl (low_map (fun _=>Low.val _) _) (by (repeat (first|exact SubR.bot|((with_reducible refine SubR.isp ?_);refine SubR.put ?_ (by (first|exact .inl (ren_tC rfl)|exact .inl (.ptr _ _ rfl)|exact .inl (.msl _ _ _ _ rfl)|exact .inl (.mref _ rfl)|exact .inl (.low _ (by (first|exact low_mapI|exact low_mapS|exact low_mapB|assumption|exact hlow _|exact hlow _ _|exact Low.agg _ (low_map (fun _=>Low.val _) _)|(simp [low_pu32,low_pu64,low_val,low_nilsl,low_sl,low_ep,low_agg,low_tup,low_fn,low_pint,low_pstr,low_pbool,low_pints,low_pstrs,low_pbyte,low_pbytes,hlow];done)|(simp [low_pu32,low_pu64,low_val,low_nilsl,low_sl,low_ep,low_agg,low_tup,low_fn,low_pint,low_pstr,low_pbool,low_pints,low_pstrs,low_pbyte,low_pbytes];done)|simp [low_pu32,low_pu64,low_val,low_nilsl,low_sl,low_ep,low_agg,low_tup,low_fn,low_pint,low_pstr,low_pbool,low_pints,low_pstrs,low_pbyte,low_pbytes,low_pattrs,low_pdefs,low_pschema,low_pentry])))|exact .inr (.inl (.low _ (by (first|exact low_mapI|exact low_mapS|exact low_mapB|assumption|exact hlow _|exact hlow _ _|exact Low.agg _ (low_map (fun _=>Low.val _) _)|(simp [low_pu32,low_pu64,low_val,low_nilsl,low_sl,low_ep,low_agg,low_tup,low_fn,low_pint,low_pstr,low_pbool,low_pints,low_pstrs,low_pbyte,low_pbytes,hlow];done)|(simp [low_pu32,low_pu64,low_val,low_nilsl,low_sl,low_ep,low_agg,low_tup,low_fn,low_pint,low_pstr,low_pbool,low_pints,low_pstrs,low_pbyte,low_pbytes];done)|simp [low_pu32,low_pu64,low_val,low_nilsl,low_sl,low_ep,low_agg,low_tup,low_fn,low_pint,low_pstr,low_pbool,low_pints,low_pstrs,low_pbyte,low_pbytes,low_pattrs,low_pdefs,low_pschema,low_pentry]))))|exact .inr (.inr ⟨_,_,rfl,rfl⟩))))|((with_reducible refine SubR.isb ?_);refine SubR.setb ?_ rfl rfl (by (first|exact RenQL.low (by first|assumption|exact hlow _|exact hlow _ _|exact low_map (fun _=>Low.val _) _)|exact RenQL.lowE (by assumption) (low_map (fun _=>Low.val _) _)|((repeat (refine RenQL.cons (by (first|exact .inl (ren_tC rfl)|exact .inl (.ptr _ _ rfl)|exact .inl (.msl _ _ _ _ rfl)|exact .inl (.mref _ rfl)|exact .inl (.low _ (by (first|exact low_mapI|exact low_mapS|exact low_mapB|assumption|exact hlow _|exact hlow _ _|exact Low.agg _ (low_map (fun _=>Low.val _) _)|(simp [low_pu32,low_pu64,low_val,low_nilsl,low_sl,low_ep,low_agg,low_tup,low_fn,low_pint,low_pstr,low_pbool,low_pints,low_pstrs,low_pbyte,low_pbytes,hlow];done)|(simp [low_pu32,low_pu64,low_val,low_nilsl,low_sl,low_ep,low_agg,low_tup,low_fn,low_pint,low_pstr,low_pbool,low_pints,low_pstrs,low_pbyte,low_pbytes];done)|simp [low_pu32,low_pu64,low_val,low_nilsl,low_sl,low_ep,low_agg,low_tup,low_fn,low_pint,low_pstr,low_pbool,low_pints,low_pstrs,low_pbyte,low_pbytes,low_pattrs,low_pdefs,low_pschema,low_pentry])))|exact .inr (.inl (.low _ (by (first|exact low_mapI|exact low_mapS|exact low_mapB|assumption|exact hlow _|exact hlow _ _|exact Low.agg _ (low_map (fun _=>Low.val _) _)|(simp [low_pu32,low_pu64,low_val,low_nilsl,low_sl,low_ep,low_agg,low_tup,low_fn,low_pint,low_pstr,low_pbool,low_pints,low_pstrs,low_pbyte,low_pbytes,hlow];done)|(simp [low_pu32,low_pu64,low_val,low_nilsl,low_sl,low_ep,low_agg,low_tup,low_fn,low_pint,low_pstr,low_pbool,low_pints,low_pstrs,low_pbyte,low_pbytes];done)|simp [low_pu32,low_pu64,low_val,low_nilsl,low_sl,low_ep,low_agg,low_tup,low_fn,low_pint,low_pstr,low_pbool,low_pints,low_pstrs,low_pbyte,low_pbytes,low_pattrs,low_pdefs,low_pschema,low_pentry]))))|exact .inr (.inr ⟨_,_,rfl,rfl⟩))) ?_));exact RenQL.nil))))|((with_reducible refine SubR.ism ?_);refine SubR.setm ?_ rfl rfl (by (first|exact ⟨rfl,rfl,rfl,rfl,rfl⟩|exact RenM.low (by first|assumption|exact hlowm _|exact hlowm _ _))))))) rfl ?_
 refine PW.draw typeTab_ok (by kernel_rfl) (by kernel_rfl) (by kernel_rfl) ?_
 refine PWops.slcE rfl rfl rfl rfl rfl rfl rfl (by rw [List.length_map,h16]) ⟨by decide,by decide⟩ ?_
 refine PWops.stepA rfl ?_
 refine wg ?_
 refine PWops.appFu rfl rfl rfl rfl rfl rfl rfl rfl (by omega) (by omega) (by omega) (one_map (fun _=>rfl) _) ?_
 refine wk ?_
 obtain ⟨L,hL⟩:∃L,L=blksL (at_+slot * 256) S:=⟨_,rfl⟩
 have hLl:L.length=(S.length+63) / 64:=by rw [hL,blksL,List.length_map,List.length_range]
 have hLg:∀i,i < L.length→L.getD i default=⟨((at_+slot * 256+i:Nat):Int),secOf (blk S i)⟩:=by
  intro i hi
  rw [hL]
  rw [hLl] at hi
  simp [blksL,List.getD_eq_getElem?_getD,hi]
 have hin:InD n L:=by
  intro p hp
  rw [hL] at hp
  obtain ⟨j,hj,rfl⟩:=List.mem_map.1 hp
  rw [List.mem_range] at hj
  simp only;omega
 rw [←hL]
 have hlow1:∀i,∀c∈dC (D.puts (L.take i)),Low c:=fun i=>dC_low _
 have hlowm:∀i,∀e∈(D.puts (L.take i)).op.map dE,Low e.2.1∧Low e.2.2:=fun i=>dM_low _
 have hlS:Low (pbytes S):=.sl _ _ _ _ (low_map (fun _=>Low.val _) _)
 have e6:pbytes S = .sl (16+B.length) 1 (H.map pbyte ++ B.map pbyte) none:=by
  unfold pbytes;rw [hSl,hS,List.map_append]
 have hD0:D=D.puts (L.take 0):=rfl
 refine PW.loop (fun i:Nat=>((((((((bot.setb 1000004 (tC 1000001 at_ now)).setb 1000001 (dB 1000002 1000003 (D.puts (L.take i)))).setb 1000002 (dC (D.puts (L.take i)))).setm 1000003 (dM (D.puts (L.take i)))).put 0 (.ptr 1000004 0)).put 1 (pint slot)).put 9 (pbytes S)).put 10 (pint i))) (fun i=>i≤L.length) (fun i=>L.length - i) 0 (by omega) ?_ ?_
 ·have h1:=hlow1 0
  have h2:=hlowm 0
  have hlow:∀o:Option TypeId,Low (.sl (16+B.length) 1 (H.map pbyte ++ B.map pbyte) o):=fun o=>.sl _ _ _ _ (fun c hc=>by
   rcases List.mem_append.1 hc with hc|hc
   ·obtain ⟨x,-,rfl⟩:=List.mem_map.1 hc;exact .val _
   ·obtain ⟨x,-,rfl⟩:=List.mem_map.1 hc;exact .val _)
  try dsimp only
  rw [e6]
  exact sb
 ·intro i hil
  have hti:(L.take i).length=i:=by rw [List.length_take];omega
  obtain ⟨o1,o2⟩:=OkD.puts (L.take i) h (fun p hp=>hin p (List.mem_of_mem_take hp)) (by omega)
  rw [hti] at o1
  by_cases hlt:i < L.length
  ·have hnx:L.take (i+1)=L.take i ++ [L.getD i default]:=take_getD default (by omega)
   have hpp:=hLg i hlt
   have hs:=o1.steps
   obtain ⟨w1,w2,w3⟩:=o1.write (i:=((at_+slot * 256+i:Nat):Int)) (by omega) (by omega) (by omega) (secOf (blk S i))
   have hw:=dc_Write (D.puts (L.take i)) ((at_+slot * 256+i:Nat):Int) (secOf (blk S i)) ⟨by omega,by omega,by rw [o1.after];omega⟩ (by rw [o1.after];omega) (fun e he=>by have:=o1.room e he;omega) 1000001 1000002 1000003 (by decide)
   rw [w1] at hw
   have hD2:D.puts (L.take (i+1))=((D.puts (L.take i)).write ((at_+slot * 256+i:Nat):Int) (secOf (blk S i))).2:=by rw [hnx,puts_snoc,hpp]
   rw [←hD2] at hw
   have h1:=hlow1 (i+1)
   have h2:=hlowm (i+1)
   have h3:=hlow1 i
   have h4:=hlowm i
   clear hlow1 hlowm hD2 w2 w3 o2 hnx hpp hD0
   generalize hE2:D.puts (L.take (i+1))=D2 at *
   generalize D.puts (L.take i)=D1 at *
   have hq:((i:Int) * 64).toNat=64 * i:=by omega
   refine wk ?_
   refine PWops.copy (n2:=(S.drop (64 * i)).length) (cs:=(S.drop (64 * i)).map pbyte) (out:=secL (secOf (blk S i))) rfl rfl rfl rfl rfl ?_ rfl rfl rfl ?_ ?_ ?_ ?_
   ·show copySrc _ 1 (.sl (List.drop ((i:Int) * 64).toNat S).length 1 (List.map pbyte (List.drop ((i:Int) * 64).toNat S)) none)=_
    rw [hq]
    show (if 1=1∧_ then some (_,_) else none)=_
    rw [if_pos ⟨rfl,one_map (fun _=>rfl) _⟩,bare_map (fun _=>rfl) _]
   ·show 0+0 * 1+min _ (64 - 0) * 1≤64
    omega
   ·rw [List.length_map];omega
   ·exact splice_blk hSb i
   refine wk ?_
   refine loopP (i+1) (by show i+1≤L.length;omega) (by show L.length - (i+1) < L.length - i;omega) ?_
   try dsimp only
   rw [hE2]
   exact sb
  ·have e:i=L.length:=by omega
   subst e
   rw [List.take_length] at *
   have h1:=dC_low (D.puts L)
   have h2:=dM_low (D.puts L)
   refine wk ?_
   exact RetH.mk rfl (Weak.refl _) ⟨⟨_,rfl,WeakL.refl _⟩,⟨_,rfl,WeakL.refl _⟩,⟨_,rfl,WeakL.refl _⟩,trivial⟩ ⟨⟨rfl,rfl⟩,trivial⟩
end
end Go.Proofs.YtmeekbjhpidcgaaDoor
